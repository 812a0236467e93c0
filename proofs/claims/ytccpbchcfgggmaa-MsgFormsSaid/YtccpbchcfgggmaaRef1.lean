/- shortcutref1: what each function of the document's answer makes of bytes. -/
import Derived.Test.YtccpbchcfgggmaaPlain
namespace Go.Proofs.Ytccpbchcfgggmaa
set_option linter.unusedVariables false
set_option linter.unusedSimpArgs false
set_option linter.unnecessarySimpa false
set_option maxRecDepth 100000
open Go.RowKit
set_option maxHeartbeats 400000 in
theorem rput_b (x : Value) (l : Bytes) (v n : Int) (w : World) (hv : 0 ≤ v ∧ v ≤ 18446744073709551615) (hn : -9223372036854775808 ≤ n ∧ n ≤ 9223372036854775807) (hl : l.length ≤ 140737488355000) (hr : Bs w x l) :
    Calls Try.prog 35 #[x, .int .u64 v, .int .i64 n] w fun e w' => RetNw w w' e (oput l v n) := by
  obtain ⟨i0, hi, hz0, hz1, hz2⟩ := info_parts ti5
  obtain ⟨A, c, rfl, h1, h2, h3⟩ := id hr
  by_cases hb : n < 0 ∨ 8 < n
  · have e1 : oput l v n = l := if_pos hb
    rw [e1]
    clear e1
    go_enter Try.func35, Try.ntmps35
    go_wp2_with (at_builtin; refine wpList_app w _ rfl (.tmp 9) (.tmp 10) rfl _ [] rfl (nw_lit w _ (Ext.rfl' _) _ rfl) ((Ext.rfl' _).alloc' _) _ l rfl (hr.ext ((Ext.rfl' _).alloc' _)) (by simp; omega) ?_; intro m Am cm w1 hm hy hx _)
    all_goals go_ret
    all_goals exact ⟨m, Am, cm, hm, rfl, hy, hx⟩
  · have hb1 : ¬ n < 0 := fun h => hb (.inl h)
    have hb2 : ¬ 8 < n := fun h => hb (.inr h)
    clear hb
    go_enter Try.func35, Try.ntmps35
    go_wp2_with (at_builtin; refine wpList_app w _ rfl (.tmp 9) (.tmp 10) rfl _ [] rfl (nw_lit w _ (Ext.rfl' _) _ rfl) ((Ext.rfl' _).alloc' _) _ l rfl (hr.ext ((Ext.rfl' _).alloc' _)) (by simp; omega) ?_; intro m Am cm w1 hm hy hx _)
    obtain ⟨N, rfl⟩ := Int.eq_ofNat_of_zero_le (show (0 : Int) ≤ n by omega)
    go_loopw [7, 8] (fun o i wr => ∃ (k : Nat) (pre : Bytes), k ≤ N ∧ i = .int .i64 (N - k) ∧ Hid (pre ++ be k v.toNat = be N v.toNat) ∧ pre.length ≤ 8 ∧ wr.ownsRow w.heap.size 5 1 o (l ++ pre).length (bv (l ++ pre)) ∧ Ext w wr) (fun _ i _ => (N - intOf i).toNat)
    case atStart => exact ⟨N, [], Nat.le_refl _, by simp, hide rfl, by simp, by have := hm.out; simp only [List.nil_append] at this; subst this; simpa [Nw] using hy, hx⟩
    case round =>
      obtain ⟨k, pre, hk, rfl, hpre, hp8, ho, hx1⟩ := hrel
      rcases k with _ | k
      · go_wp2
        go_ret
        have e2 : oput l v N = l ++ pre := by
          have := hpre.out
          simp [be] at this
          rw [oput, if_neg (by omega), this]; simp
        exact RetNw.mk (by rw [e2]; exact ho) hx1
      · have s1 : (l ++ pre).length + 1 ≤ maxLen := by simp [maxLen]; omega
        have s2 : ((l ++ pre).length + 1) * 1 ≤ 140737488355328 := by simp; omega
        have s3 : w.heap.size ≤ wr.heap.size + 1 := Nat.le_trans hx1.size (Nat.le_succ _)
        have e1 := hide (be_step k v hv)
        obtain ⟨i, hi'⟩ : ∃ i : Int, (N : Int) - ((k + 1 : Nat) : Int) = i := ⟨_, rfl⟩
        rw [hi']
        have hsh : (N : Int) - 1 - i = k := by omega
        go_wp2_with (at_builtin; refine wpList_append_any _ rfl (.tmp 24) (.tmp 33) 25 rfl w.heap.size 5 i0 (.int .u8 0) 1 1 Try.underlying25 hi hz0 hz1 hz2 rfl (by decide) u7 _ _ rfl (ho.alloc _) _ _ 1 1 _ rfl (Reads.one _ _ _) (one_int _ _) s1 s2 (by simpa using s3) ?_; intro v' w' hown hg _)
        go_roundw
        case rel =>
          obtain ⟨e1, e2⟩ := e1.out
          have e3 := hpre.out
          rw [e1] at e3
          have e4 := congrArg List.length e3
          simp [be_length] at e4
          refine ⟨k, pre ++ [UInt8.ofNat (v.toNat / 2 ^ (8 * k))], by omega, by go_num, hide (by rw [← e3]; simp), by simp; omega, ?_, (hx1.alloc' _).grown' hg (fun j hj => (ho.lt j hj).1)⟩
          rw [e2] at hown
          simpa [bv, Nat.add_assoc] using hown
        case measure => simp [intOf]; omega
set_option maxHeartbeats 400000 in
theorem rtake_b (x : Value) (l : Bytes) (n : Int) (w : World) (hn : -9223372036854775808 ≤ n ∧ n ≤ 9223372036854775807) (hl : l.length ≤ 140737488355328) (hr : Bs w x l) :
    Calls Try.prog 47 #[x, .int .i64 n] w fun e w' => e = .returned (.tuple #[.int .u64 (otake l n).1, .int .i64 (otake l n).2]) ∧ w = w' := by
  obtain ⟨A, c, rfl, h1, h2, h3⟩ := hr
  by_cases hb : n < 0 ∨ 8 < n
  · have e1 : otake l n = (0, 1) := if_pos hb
    rw [e1]
    clear e1
    go_enter Try.func47, Try.ntmps47
    go_wp2
    all_goals go_ret2
    all_goals exact ⟨rfl, rfl⟩
  · have hb1 : ¬ n < 0 := fun h => hb (.inl h)
    have hb2 : ¬ 8 < n := fun h => hb (.inr h)
    by_cases hs : (l.length : Int) < n
    · have e1 : otake l n = (0, 3) := by rw [otake, if_neg hb, if_pos hs]
      rw [e1]
      clear e1 hb
      go_enter Try.func47, Try.ntmps47
      go_wp2
      all_goals go_ret2
      all_goals exact ⟨rfl, rfl⟩
    · obtain ⟨N, rfl⟩ := Int.eq_ofNat_of_zero_le (show (0 : Int) ≤ n by omega)
      have e1 : otake l N = (((val (l.take N) : Nat) : Int), (0 : Int)) := by rw [otake, if_neg hb, if_neg hs]; rfl
      rw [e1]
      clear e1 hb
      go_enter Try.func47, Try.ntmps47
      go_wp2
      go_loop [6, 7] (fun v i => ∃ k : Nat, k ≤ N ∧ i = .int .i64 k ∧ v = .int .u64 (val (l.take k))) (fun _ i => (N - intOf i).toNat)
      case atStart => exact ⟨0, Nat.zero_le _, rfl, rfl⟩
      case round =>
        obtain ⟨k, hk, rfl, rfl⟩ := hrel
        by_cases hlt : k < N
        · obtain ⟨ad, b, rfl, hbk, hu, hcell, hb⟩ := h3.byte (show k < l.length by omega)
          have hv := val_take_lt l k (by omega)
          have e1 := hide (take_step l k b hu hv)
          go_wp2
          refine ⟨⟨k + 1, by omega, by go_num, ?_⟩, by simp [intOf]; omega⟩
          rw [e1.out]
        · go_wp2
          go_ret2
          obtain rfl : k = N := by omega
          exact ⟨rfl, rfl⟩

set_option maxHeartbeats 400000 in
theorem rputBytes_b (x y : Value) (b s : Bytes) (w : World) (hl : b.length + s.length ≤ 140737488350000) (hx : Bs w x b) (hy : Bs w y s) :
    Calls Try.prog 36 #[x, y] w fun e w' => RetNw w w' e (oputBytes b s) := by
  obtain ⟨A, c, rfl, h1, h2, h3⟩ := id hy
  have E1 : Hid (oput b s.length 4 = b ++ be 4 s.length) := by simp [oput, Hid]
  go_enter Try.func36, Try.ntmps36
  go_wp2_with fail
  refine (rput_b x b _ 4 w (by omega) (by omega) (by omega) hx).mono ?_
  rintro e w1 ⟨m, Am, cm, hm, rfl, hz, hx1⟩
  have hm' := hm.out.trans E1.out
  have hm2 := congrArg List.length hm'
  simp only [List.length_append, be_length] at hm2
  have HM := hide hm'
  have hlm : m.length + s.length ≤ 140737488355328 := by omega
  clear hm' hm2
  go_wp2_with (at_builtin; refine wpList_app w _ rfl (.tmp 9) (.tmp 10) rfl _ m rfl hz hx1 _ s rfl (hy.ext hx1) hlm ?_; intro k A' c' w2 hk hz2 hx2 _)
  go_ret
  exact ⟨k, A', c', hide (by rw [hk.out, HM.out]; simp [oputBytes]), rfl, hz2, hx2⟩
theorem rtake_ok (x : Value) (b : Bytes) (n : Nat) (w : World) (hn : n ≤ 8) (hl : b.length ≤ 140737488355328) (hr : Bs w x b) (h : n ≤ b.length) :
    Calls Try.prog 47 #[x, .int .i64 n] w fun e w' => ∃ k : Nat, Hid (k = val (b.take n)) ∧ k < 256 ^ n ∧ e = .returned (.tuple #[.int .u64 k, .int .i64 0]) ∧ w = w' := by
  refine (rtake_b x b n w (by omega) hl hr).mono ?_
  rintro e w' ⟨rfl, rfl⟩
  rcases otake_cases b n hn with ⟨h1, _⟩ | ⟨_, e1⟩
  · omega
  · have hlt := val_lt (b.take n)
    rw [List.length_take, Nat.min_eq_left h] at hlt
    rw [e1]
    exact ⟨_, hide rfl, hlt, rfl, rfl⟩
theorem rtake_short (x : Value) (b : Bytes) (n : Nat) (w : World) (hn : n ≤ 8) (hl : b.length ≤ 140737488355328) (hr : Bs w x b) (h : b.length < n) :
    Calls Try.prog 47 #[x, .int .i64 n] w fun e w' => e = .returned (.tuple #[.int .u64 0, .int .i64 3]) ∧ w = w' := by
  refine (rtake_b x b n w (by omega) hl hr).mono ?_
  rintro e w' ⟨rfl, rfl⟩
  rcases otake_cases b n hn with ⟨_, e1⟩ | ⟨h1, _⟩
  · rw [e1]; exact ⟨rfl, rfl⟩
  · omega
set_option maxHeartbeats 400000 in
theorem rtakeBytes_b (x : Value) (b : Bytes) (w : World) (hl : b.length ≤ 140737488350000) (hx : Bs w x b) :
    Calls Try.prog 48 #[x] w fun e w' => RetRead w w' e (otakeBytes b) := by
  obtain ⟨A, c, rfl, h1, h2, h3⟩ := id hx
  rcases Nat.lt_or_ge b.length 4 with hs | hs
  · have E : Hid (otakeBytes b = ([], 0, 3)) := if_pos (.inl hs)
    go_enter Try.func48, Try.ntmps48
    go_wp2_with (go_at_call 47; refine (rtake_short _ b 4 _ (by omega) (by omega) hx hs).mono ?_; rintro e w1 ⟨rfl, rfl⟩)
    all_goals go_ret3
    all_goals rw [E.out]
    all_goals exact RetRead.none_ (Below.refl _ _) 3
  · have HE : Hid (otakeBytes b = if b.length - 4 < val (b.take 4) then ([], 0, 3) else ((b.drop 4).take (val (b.take 4)), ((4 + val (b.take 4) : Nat) : Int), 0)) := by
      unfold Hid otakeBytes
      by_cases hc : b.length - 4 < val (b.take 4)
      · rw [if_pos (.inr hc), if_pos hc]
      · rw [if_neg (by omega), if_neg hc]
    have HT := hide (rtake_ok _ b 4 w (by omega) (by omega) hx hs)
    go_enter Try.func48, Try.ntmps48
    go_wp2_with fail
    refine HT.out.mono ?_
    rintro e w1 ⟨k, hk, hk3, rfl, rfl⟩
    have HE' : Hid (otakeBytes b = if b.length - 4 < k then ([], 0, 3) else ((b.drop 4).take k, ((4 + k : Nat) : Int), 0)) := by rw [hk.out]; exact HE
    clear HE
    by_cases hk2 : ((b.length : Int) - 4) < k
    · go_wp2
      all_goals go_ret3
      all_goals rw [HE'.out, if_pos (by omega)]
      all_goals exact RetRead.none_ (Below.refl _ _) 3
    · have hcut : Bs w (.slice (cutA 1 A c 4) (4 + k - 4) (c - 4)) ((b.drop 4).take k) := by rw [Nat.add_sub_cancel_left]; exact hx.cut (l := 4) (k := k) (by omega)
      have hlen : ((b.drop 4).take k).length ≤ 140737488350000 := by simp; omega
      go_wp2_with (at_builtin; refine wpList_app w _ rfl (.tmp 22) (.tmp 27) rfl _ [] rfl (nw_lit w _ (Ext.rfl' _) _ rfl) ((Ext.rfl' _).alloc' _) _ ((b.drop 4).take k) rfl (hcut.ext ((Ext.rfl' _).alloc' _)) (by simp only [List.length_nil]; omega) ?_; intro m Am cm w1 hm hz hx2 _)
      go_ret3
      rw [HE'.out, if_neg (by omega)]
      exact ⟨m, Am, cm, _, _, hide (by rw [hm.out]; simp), rfl, hz, hx2⟩
theorem crc_odd (c : Nat) (h : c < 4294967296) (h0 : c % 2 = 1) : bits .and .u32 (c : Int) 1 = 1 ∧ Hid (bits .xor .u32 ((c : Int) / 2) 3988292384 = (Crc.step c : Nat)) := by
  have e1 := u32_and_nat c 1 h (by omega)
  rw [Nat.and_one_is_mod, h0] at e1
  refine ⟨e1, ?_⟩
  have e2 := u32_xor_nat (c / 2) 3988292384 (by omega) (by omega)
  rw [Crc.step, if_pos h0, ← e2]
  rfl
theorem crc_even (c : Nat) (h : c < 4294967296) (h0 : ¬ c % 2 = 1) : bits .and .u32 (c : Int) 1 = 0 ∧ Hid ((c : Int) / 2 = (Crc.step c : Nat)) := by
  have e1 := u32_and_nat c 1 h (by omega)
  rw [Nat.and_one_is_mod, show c % 2 = 0 by omega] at e1
  refine ⟨e1, ?_⟩
  unfold Hid
  rw [Crc.step, if_neg h0, Nat.xor_zero]
  rfl













































































theorem own_ext {w w' : World} {base n : Nat} {e : TypeId} {size : Nat} {v : Value} {xs : List Value} (h : w.ownsRow base e size v n xs) (hx : Ext w w') : w'.ownsRow base e size v n xs := by
  refine ⟨h.1, ?_⟩
  rcases h.2 with h2 | ⟨g, cap, cur, hv, hg, hh, r⟩
  · exact .inl h2
  · exact .inr ⟨g, cap, cur, hv, hg, (Blk.ext (t := e) hh hx), r⟩










































































































end Go.Proofs.Ytccpbchcfgggmaa
