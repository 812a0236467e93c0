/- A part of the proof of 'StoreAll'. -/
import Derived.Test.YtlblgopfdadalaaS2
import Derived.Deep.WholeRow
import Derived.Lib.SlBytesConst
namespace Go.Proofs.Ytlblgopfdadalaa
set_option linter.unusedVariables false
set_option linter.unusedSimpArgs false
set_option linter.unnecessarySimpa false
set_option maxRecDepth 100000
open Go.RowKit
theorem ti159 : (Try.prog.info? 159).map (fun i => (i.zero, i.size)) = some (some (.agg (Array.replicate 256 (.int .u32 0))), 256) := by kernel_rfl
theorem crc_step (c : Nat) (h : c < 4294967296) :
    bits .xor .u32 ((c : Int) / 2) (bits .and .u32 3988292384 (-bits .and .u32 (c : Int) 1 % 4294967296)) = (Crc.step c : Nat) := by
  have e1 : bits .and .u32 (c : Int) 1 = ((c % 2 : Nat) : Int) := by
    have := u32_and_nat c 1 h (by omega)
    rw [Nat.and_one_is_mod] at this
    exact this
  rw [e1]
  have e2 : (c : Int) / 2 = ((c / 2 : Nat) : Int) := by omega
  rw [e2]
  unfold Crc.step
  rcases Nat.mod_two_eq_zero_or_one c with h0 | h0
  · rw [h0, if_neg (by omega)]
    have := u32_xor_nat (c / 2) 0 (by omega) (by omega)
    exact this
  · rw [h0, if_pos rfl]
    have := u32_xor_nat (c / 2) 3988292384 (by omega) (by omega)
    exact this
theorem tab_one (T : Array Value) (h : Hid (T.size = 256)) (hk : Hid (∀ k, k < 256 → T[k]? = some (.int .u32 (Crc.tab k : Nat)))) : T.all (·.oneCell') = true := by
  rw [Array.all_eq_true]
  intro i hi
  have := hk.out i (by have := h.out; omega)
  rw [Array.getElem?_eq_getElem hi] at this
  rw [Option.some.inj this]; rfl
def tabZ : Array Value := Array.replicate 256 (.int .u32 0)
theorem tabZ_size : tabZ.size = 256 := by simp [tabZ]
theorem zero_tab (w : World) : (zeroValue 159).run Try.prog w = .ok (.agg tabZ) w := (zero_of_info ti159).1 w
set_option maxHeartbeats 800000 in
theorem table_b (w : World) : Calls Try.prog 110 #[] w fun e w' => ∃ T : Array Value, e = .returned (.agg T) ∧ T.size = 256 ∧ Hid (∀ k, k < 256 → T[k]? = some (.int .u32 (Crc.tab k : Nat))) ∧ Ext w w' := by
  have hz := zero_tab
  go_enter Try.func110, Try.ntmps110
  go_wp2
  go_loopw [5] (fun i wr => ∃ (k : Nat) (cur : Array Value), (k : Int) ≤ 256 ∧ i = .int .i64 k ∧ Blk wr w.heap.size 159 tabZ ∧ Blk wr (w.heap.size + 1) 159 cur ∧ cur.size = 256 ∧ Hid (∀ j, j < k → cur[j]? = some (.int .u32 (Crc.tab j : Nat))) ∧ Ext w wr) (fun i _ => (256 - intOf i).toNat)
  case atStart => exact ⟨0, tabZ, by decide, rfl, (Blk.new w _ _).alloc _, by have := Blk.new (w.alloc (.cells tabZ 159)) 159 tabZ; simpa using this, tabZ_size, hide (fun j hj => by omega), ((Ext.rfl' w).alloc' _).alloc' _⟩
  case round =>
    obtain ⟨k, cur, hk, rfl, hz1, hc1, hsz, hcur, hx⟩ := hrel
    by_cases hlt : (k : Int) < 256
    · obtain ⟨u, hu⟩ : ∃ u, cur[k]? = some u := ⟨cur[k]'(by omega), by simp⟩
      have hcell : wr.cell? ⟨w.heap.size + 1, k, none⟩ = some u := by rw [hc1.cell, hu]
      have HS := hide hsz
      clear hsz hu
      have hfr := hc1.frozen k
      go_wp2
      go_loop [3, 10] (fun c i => ∃ j : Nat, (j : Int) ≤ 8 ∧ i = .int .i64 j ∧ c = .int .u32 (Crc.steps j k : Nat)) (fun _ i => (8 - intOf i).toNat)
      case atStart => exact ⟨0, by decide, rfl, rfl⟩
      case round =>
        obtain ⟨j, hj, rfl, rfl⟩ := hrel
        have hb := Crc.steps_lt j k (by omega)
        have HC := hide (Crc.steps_succ j k)
        generalize hc8 : Crc.steps j k = c at *
        have HC8 := hide hc8
        clear hc8
        by_cases hlt : (j : Int) < 8
        · have e1 := hide (crc_step c hb)
          go_wp2
          refine ⟨⟨j + 1, by omega, by go_num, ?_⟩, by simp [intOf]; omega⟩
          rw [e1.out, HC.out]
        · obtain rfl : j = 8 := by omega
          go_wp2
          refine ⟨⟨k + 1, cur.setIfInBounds k (.int .u32 c), by omega, by go_num, hz1.far (by simp) _, hc1.set_ k _, by simp; exact HS.out, hide ?_, hx.set' (by simp) _⟩, by simp [intOf]; omega⟩
          intro j hj
          by_cases hjk : j = k
          · subst hjk
            rw [Array.getElem?_setIfInBounds_self_of_lt (by have := HS.out; omega)]
            have := HC8.out
            rw [← this]; rfl
          · rw [Array.getElem?_setIfInBounds_ne (by omega)]
            exact hcur.out j (by omega)
    · obtain rfl : k = 256 := by omega
      have hall : cur.all (·.oneCell') = true := by
        rw [Array.all_eq_true]
        intro i hi
        have := hcur.out i (by omega)
        rw [Array.getElem?_eq_getElem hi] at this
        rw [Option.some.inj this]; rfl
      have hinfo : (Try.prog.info? 159).map (·.size) = some cur.size := by rw [hsz]; exact (zero_of_info ti159).2
      have HS := hide hsz
      clear hsz
      have HI := hide hinfo
      clear hinfo
      have HA := hide hall
      clear hall
      go_wp2_with (first | (refine wpList_load_row rfl 159 _ rfl _ rfl 159 cur (0, 0) _ hc1 Try.underlying159 rfl HI.out ?_) | (refine wpList_store_row rfl 159 _ _ rfl _ cur rfl rfl 159 tabZ hz1 HI.out (by rw [HS.out, tabZ_size]) HA.out ?_))
      refine bodyPost_ret (v := .agg cur) (results_cell_row rfl _ _ w.heap.size 159 cur (0, 0) _ rfl (setRow_heap _ _ _ _ _ _ hz1) Try.underlying159 rfl HI.out) rfl ⟨cur, rfl, HS.out, hide (fun k hk => hcur.out k hk), hx.setRow' (Nat.le_refl _) _⟩
theorem u8_xor_nat (a b : Nat) (ha : a < 256) (hb : b < 256) : bits .xor .u8 (a : Int) (b : Int) = ((a ^^^ b : Nat) : Int) := by
  have hx : a ^^^ b < 2 ^ 8 := Nat.xor_lt_two_pow (by omega) (by omega)
  show IntKind.u8.wrap ((BitVec.ofInt 8 (a : Int) ^^^ BitVec.ofInt 8 (b : Int)).toNat : Int) = _
  rw [BitVec.toNat_xor, BitVec.ofInt_natCast, BitVec.ofInt_natCast, BitVec.toNat_ofNat, BitVec.toNat_ofNat, IntKind.wrap_u8, Nat.mod_eq_of_lt (by omega), Nat.mod_eq_of_lt (by omega)]
  omega
theorem crc_byte (c : Nat) (x : UInt8) (h : c < 4294967296) : ∃ n : Nat, (n : Int) ≤ 255 ∧ bits .xor .u8 ((c : Int) % 256) (x.toNat : Int) = (n : Int) ∧
    Hid (bits .xor .u32 (Crc.tab n : Nat) ((c : Int) / 256) = (Crc.byte c x : Nat)) := by
  have hx := x.toNat_lt
  have hn : (c % 256 ^^^ x.toNat) < 2 ^ 8 := Nat.xor_lt_two_pow (by omega) (by omega)
  refine ⟨c % 256 ^^^ x.toNat, by omega, ?_, ?_⟩
  · have := u8_xor_nat (c % 256) x.toNat (by omega) (by omega)
    rw [← this]; simp
  · have e := u32_xor_nat (Crc.tab (c % 256 ^^^ x.toNat)) (c / 256) (Crc.steps_lt 8 _ (by omega)) (by omega)
    have e2 : ((c / 256 : Nat) : Int) = (c : Int) / 256 := by omega
    rw [e2] at e
    exact e
theorem crc_end (c : Nat) (h : c < 4294967296) : bits .xor .u32 IntKind.u32.max (c : Int) = ((4294967295 - c : Nat) : Int) := by
  have e1 : IntKind.u32.max = ((4294967295 : Nat) : Int) := by decide
  rw [e1, u32_xor_nat _ _ (by omega) h]
  have e2 : (BitVec.ofNat 32 c ^^^ BitVec.allOnes 32).toNat = 4294967295 - c := by
    rw [BitVec.xor_allOnes, BitVec.toNat_not, BitVec.toNat_ofNat, Nat.mod_eq_of_lt (by omega)]
  rw [BitVec.toNat_xor, BitVec.toNat_ofNat, Nat.mod_eq_of_lt (by omega), BitVec.toNat_allOnes] at e2
  rw [Nat.xor_comm]
  exact congrArg Int.ofNat e2
set_option maxHeartbeats 400000 in
theorem sum_b (x : Value) (ls : List Bytes) (w : World) (hl : lens ls ≤ 140737488355000) (hn : ls.length ≤ 140737488355000) (hp : Parts w x ls) :
    Calls Try.prog 105 #[x] w fun e w' => e = .returned (.int .u32 (Crc.sum ls.flatten : Nat)) ∧ Ext w w' := by
  obtain ⟨A, c, vs, rfl, h1, h2, h3, h4⟩ := hp
  have H4 := hide h4
  clear h4
  have hz := zero_tab
  go_enter Try.func105, Try.ntmps105
  go_wp2_with (first | (go_at_call 110; refine (table_b _).mono ?_; rintro e w1 ⟨T, rfl, hT, hTk, hx⟩; have HT := hide hT; clear hT) | (refine wpList_store_row rfl 159 _ _ rfl _ T rfl rfl 159 tabZ (heap_alloc_new _ _) (by rw [HT.out]; exact (zero_of_info ti159).2) (by rw [HT.out, tabZ_size]) (tab_one T HT hTk) ?_))
  have hB : w.heap.size ≤ w1.heap.size := hx.size
  go_loopw [4, 12] (fun s i wr => ∃ k : Nat, k ≤ ls.length ∧ i = .int .i64 k ∧ s = .int .u32 (Crc.from_ 4294967295 (ls.take k).flatten : Nat) ∧ Blk wr w1.heap.size 159 T ∧ Ext w wr) (fun _ i _ => (ls.length - intOf i).toNat)
  case atStart => exact ⟨0, Nat.zero_le _, rfl, rfl, setRow_heap _ _ _ _ _ _ (heap_alloc_new w1 _), (hx.alloc' _).setRow' hB _⟩
  case round =>
    obtain ⟨k, hk, rfl, rfl, hblk, hxr⟩ := hrel
    have hc := Crc.from_lt (ls.take k).flatten 4294967295 (by omega)
    by_cases hlt : k < ls.length
    · obtain ⟨ad, u, rfl, hbk, hu, hcell⟩ := (h3.ext hxr).at_ hlt
      obtain ⟨v, hv, hbs⟩ := H4.out k ls[k] (by simp [hlt])
      obtain ⟨A', c', rfl, g1, g2, g3⟩ := hbs.ext hxr
      obtain rfl : u = _ := Option.some.inj (hu.symm.trans hv)
      clear hu hv hbs
      obtain ⟨e1, e2, e3⟩ := lens_take ls k ls[k] (by simp [hlt])
      have E3 : Hid (Crc.from_ 4294967295 (ls.take (k + 1)).flatten = Crc.from_ (Crc.from_ 4294967295 (ls.take k).flatten) ls[k]) := by
        unfold Hid; rw [e3, Crc.from_append]
      clear e1 e3
      generalize Crc.from_ 4294967295 (ls.take k).flatten = cr at *
      generalize ls[k] = b at *
      go_wp2
      go_loop [4, 18] (fun s i => ∃ j : Nat, j ≤ b.length ∧ i = .int .i64 j ∧ s = .int .u32 (Crc.from_ cr (b.take j) : Nat)) (fun _ i => (b.length - intOf i).toNat)
      case atStart => exact ⟨0, Nat.zero_le _, rfl, rfl⟩
      case round =>
        obtain ⟨j, hj, rfl, rfl⟩ := hrel
        by_cases hlj : j < b.length
        · obtain ⟨ad', x, rfl, hbk', hx', hcell', hx255⟩ := g3.byte hlj
          have hcj := Crc.from_lt (b.take j) cr hc
          have E4 : Hid (Crc.from_ cr (b.take (j + 1)) = Crc.byte (Crc.from_ cr (b.take j)) x) := by
            unfold Hid
            rw [List.take_add_one, hx'.out, Crc.from_append]; rfl
          generalize Crc.from_ cr (b.take j) = cj at *
          obtain ⟨n, hn255, hxor, hxor2⟩ := crc_byte cj x hcj
          have hcell2 : wr.cell? ⟨w1.heap.size, n, none⟩ = some (.int .u32 (Crc.tab n : Nat)) := by rw [hblk.cell, hTk.out n (by omega)]
          go_wp2
          refine ⟨⟨j + 1, by omega, by go_num, ?_⟩, by simp [intOf]; omega⟩
          rw [E4.out, hxor2.out]
        · obtain rfl : j = b.length := by omega
          go_wp2
          refine ⟨⟨k + 1, by omega, by go_num, ?_, hblk, hxr⟩, by simp [intOf]; omega⟩
          rw [E3.out, List.take_length]
    · obtain rfl : k = ls.length := by omega
      rw [List.take_length] at hc
      rw [List.take_length]
      have E5 : Hid (Crc.sum ls.flatten = 4294967295 - Crc.from_ 4294967295 ls.flatten) := rfl
      generalize Crc.from_ 4294967295 ls.flatten = cr at *
      go_wp2
      go_ret
      rw [E5.out, ← crc_end cr hc]
      exact ⟨rfl, hxr⟩
theorem sum1_b (v : Value) (b : Bytes) (w : World) (g : Nat) (hg : w.heap.size = g) (hl : b.length ≤ 140737488355000) (h : Bs w v b) :
    Calls Try.prog 105 #[.slice (some ⟨g, 0, none⟩) 1 1] (w.alloc (.cells #[v] 24)) fun e w' =>
      ∃ s : Nat, Hid (s = Crc.sum b) ∧ (s : Int) ≤ 4294967295 ∧ e = .returned (.int .u32 s) ∧ Ext w w' := by
  refine (sum_b _ [b] _ (by simp [lens]; omega) (by simp) (Parts.one _ hg h)).mono ?_
  rintro e w' ⟨rfl, hx⟩
  have := Crc.sum_lt b
  exact ⟨Crc.sum b, hide rfl, by omega, by simp, ((Ext.rfl' w).alloc' _).trans' hx⟩
def oframe (b : Bytes) : Bytes := be 4 b.length ++ be 4 (Crc.sum b) ++ b
theorem oput_n (b : Bytes) (v n : Nat) (h : n ≤ 8) : oput b v n = b ++ be n v := by rw [oput, if_neg (by omega)]; simp
set_option maxHeartbeats 400000 in
theorem frame_b (x : Value) (b : Bytes) (w : World) (hl : b.length ≤ 140737488350000) (hx : Bs w x b) :
    Calls Try.prog 87 #[x] w fun e w' => RetNw w w' e (oframe b) := by
  obtain ⟨A, c, rfl, h1, h2, h3⟩ := id hx
  go_enter Try.func87, Try.ntmps87
  go_wp2_with fail
  refine (put_b _ [] _ 4 w (by omega) (by omega) (by simp) (Bs.nil w)).mono ?_
  rintro e w1 ⟨m1, A1, c1, hm1, rfl, hz1, hx1⟩
  go_wp2_with fail
  refine (sum1_b _ b _ _ rfl (by omega) (hx.ext hx1)).mono ?_
  rintro e w2 ⟨s, hs, hs2, rfl, hx2⟩
  have e1 : m1.length = 4 := by
    rw [hm1.out, show (4 : Int) = ((4 : Nat) : Int) from rfl, oput_n _ _ _ (by omega)]
    simp [be_length]
  have E1 := hide e1
  clear e1
  go_wp2_with fail
  refine (put_b _ m1 _ 4 _ (by omega) (by omega) (by rw [E1.out]; omega) (hz1.bs.ext hx2)).mono ?_
  rintro e w3 ⟨m3, A3, c3, hm3, rfl, hz3, hx3⟩
  have e3 : m3 = be 4 b.length ++ be 4 (Crc.sum b) := by
    rw [hm3.out, hm1.out, ← hs.out, show (4 : Int) = ((4 : Nat) : Int) from rfl, oput_n _ _ _ (by omega), oput_n _ _ _ (by omega)]
    simp
  have E3 := hide e3
  clear e3
  go_wp2_with fail
  refine (cat2_b _ _ m3 b _ _ rfl (by rw [E3.out]; simp [be_length]; omega) hz3.bs (hx.ext ((hx1.trans' hx2).trans' hx3))).mono ?_
  rintro e w4 ⟨m4, A4, c4, hm4, rfl, hz4, hx4⟩
  go_wp2
  go_ret
  have hx5 := (hx1.trans' hx2).trans' hx3
  exact ⟨m4, A4, c4, hide (by rw [hm4.out, E3.out]; rfl), rfl, hz4.trans hx5, hx5.trans' hx4⟩
def ounframe (b : Bytes) : Bytes × Int × Int :=
  if b.length < 8 ∨ b.length - 8 < val (b.take 4) then ([], 0, 3)
  else if Crc.sum ((b.drop 8).take (val (b.take 4))) ≠ val ((b.drop 4).take 4) then ([], 0, 2)
  else ((b.drop 8).take (val (b.take 4)), ((8 + val (b.take 4) : Nat) : Int), 0)
theorem take_ok (x : Value) (b : Bytes) (n : Nat) (w : World) (hn : n ≤ 8) (hl : b.length ≤ 140737488355328) (hr : Bs w x b) (h : n ≤ b.length) :
    Calls Try.prog 99 #[x, .int .i64 n] w fun e w' => ∃ k : Nat, Hid (k = val (b.take n)) ∧ k < 256 ^ n ∧ e = .returned (.tuple #[.int .u64 k, .int .i64 0]) ∧ w = w' := by
  refine (take_b x b n w (by omega) hl hr).mono ?_
  rintro e w' ⟨rfl, rfl⟩
  rcases otake_cases b n hn with ⟨h1, _⟩ | ⟨_, e1⟩
  · omega
  · have hlt := val_lt (b.take n)
    rw [List.length_take, Nat.min_eq_left h] at hlt
    rw [e1]
    exact ⟨_, hide rfl, hlt, rfl, rfl⟩
theorem take_short (x : Value) (b : Bytes) (n : Nat) (w : World) (hn : n ≤ 8) (hl : b.length ≤ 140737488355328) (hr : Bs w x b) (h : b.length < n) :
    Calls Try.prog 99 #[x, .int .i64 n] w fun e w' => e = .returned (.tuple #[.int .u64 0, .int .i64 3]) ∧ w = w' := by
  refine (take_b x b n w (by omega) hl hr).mono ?_
  rintro e w' ⟨rfl, rfl⟩
  rcases otake_cases b n hn with ⟨_, e1⟩ | ⟨h1, _⟩
  · rw [e1]; exact ⟨rfl, rfl⟩
  · omega
theorem unframe_short (b : Bytes) (h : b.length < 8 ∨ b.length - 8 < val (b.take 4)) : ounframe b = ([], 0, 3) := if_pos h
set_option maxHeartbeats 800000 in
theorem unframe_b (x : Value) (b : Bytes) (w : World) (hl : b.length ≤ 140737488350000) (hx : Bs w x b) :
    Calls Try.prog 81 #[x] w fun e w' => RetRead w w' e (ounframe b) := by
  obtain ⟨A, c, rfl, h1, h2, h3⟩ := id hx
  rcases Nat.lt_or_ge b.length 4 with hs | hs
  · have E := hide (unframe_short b (.inl (by omega)))
    go_enter Try.func81, Try.ntmps81
    go_wp2_with (go_at_call 99; refine (take_short _ b 4 _ (by omega) (by omega) hx hs).mono ?_; rintro e w1 ⟨rfl, rfl⟩)
    all_goals go_ret3
    all_goals rw [E.out]
    all_goals exact RetRead.none_ (Below.refl _ _) 3
  · by_cases hs8 : b.length < 8
    · have E := hide (unframe_short b (.inl hs8))
      go_enter Try.func81, Try.ntmps81
      go_wp2_with (go_at_call 99; refine (take_ok _ b 4 _ (by omega) (by omega) hx hs).mono ?_; rintro e w1 ⟨k, hk, hk2, rfl, rfl⟩)
      all_goals go_ret3
      all_goals rw [E.out]
      all_goals exact RetRead.none_ (Below.refl _ _) 3
    · have hlt := val_lt (b.take 4)
      rw [List.length_take, Nat.min_eq_left hs] at hlt
      by_cases hk : b.length - 8 < val (b.take 4)
      · have E := hide (unframe_short b (.inr hk))
        have hk2 : ((b.length : Int) - 8) < val (b.take 4) := by omega
        clear hk
        have HT := hide (take_ok _ b 4 w (by omega) (by omega) hx hs)
        go_enter Try.func81, Try.ntmps81
        go_wp2_with fail
        refine HT.out.mono ?_
        rintro e w1 ⟨k, hk, hk3, rfl, rfl⟩
        rw [← hk.out] at hk2
        go_wp2
        all_goals go_ret3
        all_goals rw [E.out]
        all_goals exact RetRead.none_ (Below.refl _ _) 3
      · have hk2 : ¬ ((b.length : Int) - 8) < val (b.take 4) := by omega
        have E : Hid (ounframe b = if Crc.sum ((b.drop 8).take (val (b.take 4))) ≠ val ((b.drop 4).take 4) then ([], 0, 2) else ((b.drop 8).take (val (b.take 4)), ((8 + val (b.take 4) : Nat) : Int), 0)) := if_neg (by omega)
        clear hk
        have hr4 := hx.rest (l := 4) (by omega)
        have hr8 := hx.cut (l := 8) (k := val (b.take 4)) (by omega)
        have HT := hide (take_ok _ b 4 w (by omega) (by omega) hx hs)
        have HT2 := hide (take_ok _ (b.drop 4) 4 w (by omega) (by simp; omega) hr4 (by simp; omega))
        go_enter Try.func81, Try.ntmps81
        go_wp2_with fail
        refine HT.out.mono ?_
        rintro e w1 ⟨k, hk, hk3, rfl, rfl⟩
        rw [← hk.out] at hk2 hr8
        have E' : Hid (ounframe b = if Crc.sum ((b.drop 8).take k) ≠ val ((b.drop 4).take 4) then ([], 0, 2) else ((b.drop 8).take k, ((8 + k : Nat) : Int), 0)) := by rw [hk.out]; exact E
        clear E hlt
        go_wp2_with fail
        refine HT2.out.mono ?_
        rintro e w1 ⟨q, hq, hq3, rfl, rfl⟩
        go_wp2_with fail
        refine (sum1_b _ _ _ _ rfl (by simp; omega) hr8).mono ?_
        rintro e w2 ⟨s, hs1, hs2, rfl, hx2⟩
        by_cases hsq : s = q
        · have hb : ((s : Int) != (q : Int)) = false := by simp [hsq]
          have HSQ := hide hsq
          clear hsq
          go_wp2_with (go_at_call 71; refine (clone_b _ _ _ (by simp; omega) (hr8.ext hx2)).mono ?_; rintro e w3 ⟨m, Am, cm, hm, rfl, hz, hx3⟩)
          go_ret3
          rw [E'.out, if_neg (by rw [← hs1.out, ← hq.out, HSQ.out]; simp)]
          exact ⟨m, Am, cm, _, _, hide (by rw [hm.out]; simp), rfl, hz.trans hx2, hx2.trans' hx3⟩
        · have hb : ((s : Int) != (q : Int)) = true := by simp; omega
          have HSQ := hide hsq
          clear hsq
          go_wp2
          go_ret3
          rw [E'.out, if_pos (by rw [← hs1.out, ← hq.out]; exact HSQ.out)]
          exact RetRead.none_ hx2 2
end Go.Proofs.Ytlblgopfdadalaa
namespace Go.Proofs.Ytlblgopfdadalaa
set_option linter.unusedVariables false
set_option linter.unusedSimpArgs false
set_option linter.unnecessarySimpa false
set_option maxRecDepth 100000
open Go.RowKit
theorem val_cons (x : UInt8) (l : Bytes) : val (x :: l) = x.toNat * 256 ^ l.length + val l := by
  have key : ∀ (l : Bytes) (a : Nat), l.foldl (fun a b => a * 256 + b.toNat) a = a * 256 ^ l.length + val l := by
    intro l
    induction l with
    | nil => intro a; simp [val]
    | cons y l ih =>
      intro a
      have h2 := ih y.toNat
      simp only [List.foldl_cons, List.length_cons, val]
      rw [ih (a * 256 + y.toNat), ih (0 * 256 + y.toNat)]
      simp only [Nat.zero_mul, Nat.zero_add, Nat.pow_succ, Nat.add_mul]
      rw [Nat.mul_assoc, Nat.mul_comm 256, Nat.add_assoc]
  have := key l x.toNat
  simpa [val] using this
theorem val_be (n v : Nat) : val (be n v) = v % 256 ^ n := by
  induction n with
  | zero => simp [be, val, Nat.mod_one]
  | succ n ih =>
    rw [be, val_cons, be_length, ih]
    have e1 : (2 : Nat) ^ (8 * n) = 256 ^ n := by rw [Nat.pow_mul]
    have e3 : v % 256 ^ (n + 1) = v % 256 ^ n + 256 ^ n * (v / 256 ^ n % 256) := by rw [Nat.pow_succ, Nat.mod_mul]
    have e2 : (UInt8.ofNat (v / 256 ^ n)).toNat = v / 256 ^ n % 256 := by rw [UInt8.toNat_ofNat']
    rw [e1, e2, e3, Nat.mul_comm]
    omega
theorem oframe_length (b : Bytes) : (oframe b).length = b.length + 8 := by simp [oframe, be_length]; omega
theorem drop_app {α : Type} (l m : List α) (n : Nat) (h : l.length = n) : (l ++ m).drop n = m := by subst h; simp
theorem take_app {α : Type} (l m : List α) (n : Nat) (h : l.length = n) : (l ++ m).take n = l := by subst h; simp
/-- A frame is read, whatever stands behind. -/
theorem ounframe_oframe (b more : Bytes) (h : b.length < 4294967296) : ounframe (oframe b ++ more) = (b, ((b.length + 8 : Nat) : Int), 0) := by
  have e0 : oframe b ++ more = be 4 b.length ++ (be 4 (Crc.sum b) ++ (b ++ more)) := by simp [oframe]
  have e1 : (oframe b ++ more).take 4 = be 4 b.length := by rw [e0]; exact take_app _ _ _ (be_length _ _)
  have e2 : (oframe b ++ more).drop 4 = be 4 (Crc.sum b) ++ (b ++ more) := by rw [e0]; exact drop_app _ _ _ (be_length _ _)
  have e3 : (oframe b ++ more).drop 8 = b ++ more := by
    rw [show 8 = 4 + 4 from rfl, ← List.drop_drop, e2]; exact drop_app _ _ _ (be_length _ _)
  have e4 : (((oframe b ++ more).drop 4)).take 4 = be 4 (Crc.sum b) := by rw [e2]; exact take_app _ _ _ (be_length _ _)
  have e5 : val (be 4 b.length) = b.length := by rw [val_be]; exact Nat.mod_eq_of_lt (by simpa using h)
  have e6 : val (be 4 (Crc.sum b)) = Crc.sum b := by rw [val_be]; exact Nat.mod_eq_of_lt (by simpa using Crc.sum_lt b)
  have hl : (oframe b ++ more).length = b.length + 8 + more.length := by rw [List.length_append, oframe_length]
  have hs : ¬ ((oframe b ++ more).length < 8 ∨ (oframe b ++ more).length - 8 < val ((oframe b ++ more).take 4)) := by rw [e1, e5, hl]; omega
  unfold ounframe
  rw [if_neg hs, e1, e5, e3, e4, e6, take_app b more b.length rfl, if_neg (by simp)]
  simp only [Prod.mk.injEq, true_and, and_true]
  omega
/-- A frame that is cut off is short. -/
theorem ounframe_cut (b : Bytes) (p : Nat) (h : b.length < 4294967296) (hp : p < b.length + 8) : ounframe ((oframe b).take p) = ([], 0, 3) := by
  refine if_pos ?_
  have hl : ((oframe b).take p).length = p := by rw [List.length_take, oframe_length]; omega
  rw [hl]
  by_cases h8 : p < 8
  · exact .inl h8
  · right
    have e1 : ((oframe b).take p).take 4 = be 4 b.length := by
      rw [List.take_take, Nat.min_eq_left (by omega)]
      have e0 : oframe b = be 4 b.length ++ (be 4 (Crc.sum b) ++ b) := by simp [oframe]
      rw [e0]; exact take_app _ _ _ (be_length _ _)
    rw [e1, val_be, Nat.mod_eq_of_lt (by simpa using h)]
    omega
end Go.Proofs.Ytlblgopfdadalaa
