/- A part of the proof of 'StateBytes'. -/
import Derived.Test.YtamimdlaclglkaaGreatB4
import Derived.Test.YtamimdlaclglkaaGreatB7
import Derived.Laws.CopyOwn
import Derived.Laws.MakeOwn
import Derived.Lib.Bytealg
namespace Go.Proofs.YtamimdlaclglkaaGreat
set_option linter.unusedVariables false
set_option linter.unusedSimpArgs false
set_option linter.unnecessarySimpa false
set_option maxRecDepth 100000
open Go.RowKit
/-- what a twin's row holds -/
def twin (b : Bytes) : Bytes := b ++ [229, 229, 229]
def IsTwin (w : World) (g : Nat) (b : Bytes) : Prop := Blk w g 5 (bv (twin b)).toArray
theorem IsTwin.ext {w w' : World} {g : Nat} {b : Bytes} (h : IsTwin w g b) (hx : Ext w w') : IsTwin w' g b := Blk.ext h hx
theorem IsTwin.bs {w : World} {g : Nat} {b : Bytes} (h : IsTwin w g b) (hl : b.length ≤ 140737488355000) : Bs w (.slice (some ⟨g, 0, none⟩) b.length (b.length + 3)) b := by
  refine Bs.mk' rfl (by omega) (by simp [maxLen]; omega) ⟨by simp, fun hn => ⟨_, rfl, h.lt, fun j u hu => ?_⟩⟩
  have hadd : (⟨g, 0, none⟩ : Addr).add j = ⟨g, j, none⟩ := by unfold Addr.add; split <;> simp_all
  have hj : j < (bv b).length := by
    rcases Nat.lt_or_ge j (bv b).length with h1 | h1
    · exact h1
    · rw [List.getElem?_eq_none h1] at hu; cases hu
  rw [hadd, h.cell]
  simp only [List.getElem?_toArray, twin, bv_append]
  rw [List.getElem?_append_left hj]
  exact hu
theorem make_u8 (n : Nat) (h : n ≤ 140737488355328) (l : Int) (hl : l = n) : ∀ W : World, (Instr.makeSlice 22 (.int .i64 l) (.int .i64 l)).run Tryz.prog W =
    .ok (.slice (some ⟨W.heap.size, 0, none⟩) n n) (W.alloc (.cells (List.replicate n (.int .u8 0)).toArray 5)) := by
  obtain ⟨i0, hi, hz0, hz1, hz2⟩ := info_parts ti5
  subst hl
  intro W
  rw [run_make (P := Tryz.prog) W 22 5 i0 (.int .u8 0) Tryz.underlying22 hi hz0 .i64 .i64 n n (by omega) (by omega) (by rw [hz2]; omega) (by omega)]
  have e : madeCells (Value.int .u8 0).cells ((n : Int).toNat * i0.size) = (List.replicate n (Value.int .u8 0)).toArray := by
    rw [hz1]
    apply Array.ext
    · simp [madeCells]
    · intro j h1 h2
      simp [madeCells, Value.cells, Nat.mod_one]
  rw [e]
  simp
set_option maxHeartbeats 400000 in
theorem twin_b (x : Value) (b : Bytes) (w : World) (hl : b.length ≤ 140737488355000) (hx : Bs w x b) :
    Calls Tryz.prog 16 #[x] w fun e w' => ∃ g, e = .returned (.slice (some ⟨g, 0, none⟩) b.length (b.length + 3)) ∧ w.heap.size ≤ g ∧ IsTwin w' g b ∧ Ext w w' := by
  obtain ⟨A, c, rfl, h1, h2, h3⟩ := id hx
  obtain ⟨i0, hi, hz0, hz1, hz2⟩ := info_parts ti5
  have hmk := make_u8 (b.length + 3) (by omega) ((b.length : Int) + 3) (by simp)
  have hsz : (Tryz.prog.info? 5).map (·.size) = some 1 := by rw [hi]; simp [hz1]
  obtain ⟨Z, hZ⟩ : ∃ Z, Z = List.replicate (b.length + 3) (Value.int .u8 0) := ⟨_, rfl⟩
  rw [← hZ] at hmk
  have hZl : Z.length = b.length + 3 := by rw [hZ]; simp
  clear hZ
  have HSZ := hide hsz
  have HZL := hide hZl
  clear hsz hZl
  have hpos : ∀ W : World, Ext w W → 0 < (bv b).length → ∃ ad, A = some ad ∧ ∀ j v, (bv b)[j]? = some v → W.cell? (ad.add j) = some v := by
    intro W hW hn
    obtain ⟨ad, e, hb, hc⟩ := (h3.ext hW).2 (by simpa using hn)
    exact ⟨ad, e, hc⟩
  have HP := hide hpos
  clear hpos
  go_enter Tryz.func16, Tryz.ntmps16
  go_wp2_with (with_reducible show wpList _ _ _ (Oper.mk (some 11) _ _ _ _ _ :: _) _ _; go_loud (refine wpList_copy_splice rfl (.tmp 9) (.tmp 10) 22 22 rfl 5 Tryz.underlying22 HSZ.out (some ⟨w.heap.size, 0, none⟩) A (b.length + 3) (b.length + 3) b.length c rfl rfl w.heap.size 0 Z 5 (heap_alloc_new w _) (bv b) (by simp) (fun hn => ⟨rfl, HP.out _ ((Ext.rfl' w).alloc' _) hn⟩) (by rw [HZL.out]; simp) (bv_one b) w.heap.size w ((Ext.rfl' w).alloc' _) (Nat.le_refl _) ?_); intro w2 hg2 hb2)
  have hs : (splice Z 0 (bv b)).length = b.length + 3 := by rw [length_splice]; exact HZL.out; rw [HZL.out]; simp
  have HS := hide hs
  clear hs
  have HI : Hid (∀ j, j < b.length → (splice Z 0 (bv b))[j]? = (bv (twin b))[j]?) := by
    unfold Hid
    intro j hj
    rw [splice, List.take_zero, List.nil_append, List.getElem?_append_left (by simpa using hj), twin, bv_append, List.getElem?_append_left (by simpa using hj)]
  generalize splice Z 0 (bv b) = Y at *
  go_loopw [4] (fun i wr => ∃ (q : Nat) (cur : Array Value), b.length ≤ q ∧ q ≤ b.length + 3 ∧ i = .int .i64 q ∧ Blk wr w.heap.size 5 cur ∧ Hid (cur.size = b.length + 3) ∧ Hid (∀ j, j < q → cur[j]? = (bv (twin b))[j]?) ∧ Ext w wr) (fun i _ => (b.length + 3 - intOf i).toNat)
  case atStart => exact ⟨b.length, Y.toArray, Nat.le_refl _, by omega, rfl, hg2.out, by unfold Hid; simp [HS.out], by unfold Hid; intro j hj; simp only [List.getElem?_toArray]; exact HI.out j hj, hb2⟩
  case round =>
    obtain ⟨q, cur, hq1, hq2, rfl, hc1, hsz, hcur, hxr⟩ := hrel
    by_cases hlt : q < b.length + 3
    · obtain ⟨u, hu⟩ : ∃ u, cur[q]? = some u := ⟨cur[q]'(by have := hsz.out; omega), by simp⟩
      have hcell : wr.cell? ⟨w.heap.size, q, none⟩ = some u := by rw [hc1.cell, hu]
      have hfr := hc1.frozen q
      clear hu
      go_wp2
      refine ⟨⟨q + 1, cur.setIfInBounds q (.int .u8 229), by omega, by omega, by go_num, hc1.set_ q _, by unfold Hid; simp; exact hsz.out, hide ?_, hxr.set' (by simp) _⟩, by simp [intOf]; omega⟩
      intro j hj
      by_cases hjk : j = q
      · subst hjk
        rw [Array.getElem?_setIfInBounds_self_of_lt (by have := hsz.out; omega)]
        rw [twin, bv_append, List.getElem?_append_right (by simpa using hq1)]
        obtain ⟨p, rfl⟩ : ∃ p, j = b.length + p := ⟨j - b.length, by omega⟩
        simp only [bv_length, Nat.add_sub_cancel_left]
        have hp : p < 3 := by omega
        rcases p with _ | _ | _ | p
        · rfl
        · rfl
        · rfl
        · omega
      · rw [Array.getElem?_setIfInBounds_ne (by omega)]
        exact hcur.out j (by omega)
    · obtain rfl : q = b.length + 3 := by omega
      have hall : cur = (bv (twin b)).toArray := by
        apply Array.ext_getElem?
        intro j
        simp only [List.getElem?_toArray]
        rcases Nat.lt_or_ge j (b.length + 3) with hj | hj
        · exact hcur.out j hj
        · rw [Array.getElem?_eq_none (by rw [hsz.out]; exact hj), List.getElem?_eq_none (by simp [twin]; omega)]
      have HA := hide hall
      clear hall hcur hsz
      go_wp2
      go_ret
      exact ⟨w.heap.size, rfl, Nat.le_refl _, by unfold IsTwin; rw [← HA.out]; exact hc1, hxr⟩
set_option maxHeartbeats 400000 in
theorem kept_b (x : Value) (b : Bytes) (g : Nat) (w : World) (hl : b.length ≤ 140737488355000) (hx : Bs w x b) (hg : IsTwin w g b) :
    Calls Tryz.prog 21 #[.slice (some ⟨g, 0, none⟩) b.length (b.length + 3), x] w fun e w' => e = .returned (.bool true) ∧ w = w' := by
  obtain ⟨A, c, rfl, h1, h2, h3⟩ := id hx
  have k1 := run_str (P := Tryz.prog) hx Tryz.underlying22 Tryz.underlying5 Tryz.underlying9
  have k2 := run_str (P := Tryz.prog) (hg.bs hl) Tryz.underlying22 Tryz.underlying5 Tryz.underlying9
  go_enter Tryz.func21, Tryz.ntmps21
  go_wp2
  go_loop [6] (fun i => ∃ q : Nat, b.length ≤ q ∧ q ≤ b.length + 3 ∧ i = .int .i64 q) (fun i => (b.length + 3 - intOf i).toNat)
  case atStart => exact ⟨b.length, Nat.le_refl _, by omega, rfl⟩
  case round =>
    obtain ⟨q, hq1, hq2, rfl⟩ := hrel
    by_cases hlt : q < b.length + 3
    · have hcell : w.cell? ⟨g, q, none⟩ = some (.int .u8 229) := by
        have hc := Blk.cell hg q
        rw [hc, List.getElem?_toArray, twin, bv_append, List.getElem?_append_right (by simpa using hq1)]
        obtain ⟨p, rfl⟩ : ∃ p, q = b.length + p := ⟨q - b.length, by omega⟩
        simp only [bv_length, Nat.add_sub_cancel_left]
        have hp : p < 3 := by omega
        rcases p with _ | _ | _ | p
        · rfl
        · rfl
        · rfl
        · omega
      go_wp2
      exact ⟨⟨q + 1, by omega, by omega, by go_num⟩, by simp [intOf]; omega⟩
    · go_wp2
      go_ret
      exact ⟨rfl, rfl⟩
end Go.Proofs.YtamimdlaclglkaaGreat
namespace Go.Proofs.YtamimdlaclglkaaGreat
set_option linter.unusedVariables false
set_option linter.unusedSimpArgs false
set_option linter.unnecessarySimpa false
set_option maxRecDepth 100000
open Go.RowKit
theorem most_b (w : World) : Calls Tryz.prog 127 #[] w fun e w' => e = .returned (.int .u64 238328) ∧ w = w' := by
  go_enter Tryz.func127, Tryz.ntmps127
  go_wp2
  go_loop [1, 2] (fun v i => (v = .int .u64 1 ∧ i = .int .i64 0) ∨ (v = .int .u64 62 ∧ i = .int .i64 1) ∨ (v = .int .u64 3844 ∧ i = .int .i64 2) ∨ (v = .int .u64 238328 ∧ i = .int .i64 3)) (fun _ i => (3 - intOf i).toNat)
  case atStart => exact .inl ⟨rfl, rfl⟩
  case round =>
    rcases hrel with ⟨rfl, rfl⟩ | ⟨rfl, rfl⟩ | ⟨rfl, rfl⟩ | ⟨rfl, rfl⟩
    · go_wp2
      exact ⟨.inr (.inl ⟨rfl, rfl⟩), by simp [intOf]⟩
    · go_wp2
      exact ⟨.inr (.inr (.inl ⟨rfl, rfl⟩)), by simp [intOf]⟩
    · go_wp2
      exact ⟨.inr (.inr (.inr ⟨rfl, rfl⟩)), by simp [intOf]⟩
    · go_wp2
      go_ret
      exact ⟨rfl, rfl⟩
/-- the bytes that a given name may have -/
abbrev okc (n : Int) : Prop := 97 ≤ n ∧ n ≤ 122 ∨ 48 ≤ n ∧ n ≤ 57 ∨ n = 45
abbrev IsAlias (s : ByteArray) : Prop := ∃ h : 4 ≤ s.size, s.size ≤ 12 ∧ ¬ (s[0].toNat : Int) = 45 ∧ ¬ ((s[s.size - 1]'(by omega)).toNat : Int) = 45 ∧ ∀ i (h : i < s.size), okc (s[i].toNat : Int)
def alias (s : ByteArray) : Bool := decide (IsAlias s)
theorem no_alias (s : ByteArray) (h : ¬ IsAlias s) : Hid (alias s = false) := decide_eq_false h
theorem okc_or (c : Int) : ((97 ≤ c ∧ c ≤ 122) ∨ (48 ≤ c ∧ c ≤ 57) ∨ c = 45) ∨ (c < 45 ∨ (46 ≤ c ∧ c ≤ 47) ∨ (58 ≤ c ∧ c ≤ 96) ∨ 123 ≤ c) := by omega
theorem okc_not (c : Int) (h : c < 45 ∨ (46 ≤ c ∧ c ≤ 47) ∨ (58 ≤ c ∧ c ≤ 96) ∨ 123 ≤ c) : ¬ okc c := by unfold okc; omega
def Upto (s : ByteArray) (k : Nat) : Prop := ∀ j (_ : j < k) (h : j < s.size), okc (s[j].toNat : Int)
theorem Upto.step {s : ByteArray} {k : Nat} (h : Hid (Upto s k)) (hk : k < s.size) (ho : okc (s[k].toNat : Int)) : Hid (Upto s (k + 1)) := by
  unfold Hid
  intro j hj hjs
  by_cases e : j = k
  · subst e; exact ho
  · exact h.out j (by omega) hjs
set_option maxHeartbeats 800000 in
theorem alias_b (s : ByteArray) (w : World) (hs : s.size ≤ 140737488355000) :
    Calls Tryz.prog 117 #[.string s] w fun e w' => e = .returned (.bool (alias s)) ∧ w = w' := by
  by_cases h4 : s.size < 4
  · have H := no_alias s fun h => by have := h.1; omega
    go_enter Tryz.func117, Tryz.ntmps117
    go_wp2
    all_goals go_ret
    all_goals rw [H.out]
    all_goals exact ⟨rfl, rfl⟩
  · by_cases h12 : 12 < s.size
    · have H := no_alias s fun h => by have := h.2.1; omega
      go_enter Tryz.func117, Tryz.ntmps117
      go_wp2
      all_goals go_ret
      all_goals rw [H.out]
      all_goals exact ⟨rfl, rfl⟩
    · have e0 : 0 < s.size := by omega
      have e1 : s.size - 1 < s.size := by omega
      by_cases hf : (s[0].toNat : Int) = 45
      · have H := no_alias s fun h => h.2.2.1 hf
        go_enter Tryz.func117, Tryz.ntmps117
        go_wp2
        all_goals go_ret
        all_goals rw [H.out]
        all_goals exact ⟨rfl, rfl⟩
      · by_cases hg : (s[s.size - 1].toNat : Int) = 45
        · have H := no_alias s fun h => h.2.2.2.1 hg
          go_enter Tryz.func117, Tryz.ntmps117
          go_wp2
          all_goals go_ret
          all_goals rw [H.out]
          all_goals exact ⟨rfl, rfl⟩
        · have HF := hide hf
          have HG := hide hg
          have hf2 : ((s[0].toNat : Int) == 45) = false := by simpa using hf
          have hg2 : ((s[s.size - 1].toNat : Int) == 45) = false := by simpa using hg
          go_enter Tryz.func117, Tryz.ntmps117
          go_wp2
          clear hf hg hf2 hg2
          go_loop [28] (fun i => ∃ k : Nat, k ≤ s.size ∧ i = .int .i64 k ∧ Hid (Upto s k)) (fun i => (s.size - intOf i).toNat)
          case atStart => exact ⟨0, Nat.zero_le _, rfl, hide fun j hj => by omega⟩
          case round =>
            obtain ⟨k, hk, rfl, hu⟩ := hrel
            by_cases hlt : k < s.size
            · rcases okc_or (s[k].toNat : Int) with hc | hc
              · have hn := Upto.step hu hlt hc
                rcases hc with hc | hc | hc
                all_goals go_wp2
                all_goals exact ⟨⟨k + 1, by omega, by go_num, hn⟩, by simp [intOf]; omega⟩
              · have H := no_alias s fun h => okc_not _ hc (h.2.2.2.2 k hlt)
                have hne : ((s[k].toNat : Int) == 45) = false := by simp; omega
                rcases hc with hc | ⟨hc, hc'⟩ | ⟨hc, hc'⟩ | hc
                all_goals go_wp2
                all_goals first | (go_ret; rw [H.out]; exact ⟨rfl, rfl⟩) | (exfalso; rename_i hz; simp only [Bool.not_eq_false', decide_eq_true_eq] at hz; omega)
            · have H : Hid (alias s = true) := decide_eq_true ⟨by omega, by omega, HF.out, HG.out, fun i h => hu.out i (by omega) h⟩
              go_wp2
              go_ret
              rw [H.out]
              exact ⟨rfl, rfl⟩
end Go.Proofs.YtamimdlaclglkaaGreat
namespace Go.Proofs.YtamimdlaclglkaaGreat
set_option linter.unusedVariables false
set_option linter.unusedSimpArgs false
set_option linter.unnecessarySimpa false
set_option maxRecDepth 100000
open Go.RowKit
def digitsB : ByteArray := { data := #[48, 49, 50, 51, 52, 53, 54, 55, 56, 57, 65, 66, 67, 68, 69, 70, 71, 72, 73, 74, 75, 76, 77, 78, 79, 80, 81, 82, 83, 84, 85, 86, 87, 88, 89, 90, 97, 98, 99, 100, 101, 102, 103, 104, 105, 106, 107, 108, 109, 110, 111, 112, 113, 114, 115, 116, 117, 118, 119, 120, 121, 122] }
/-- the sign of a number below 62 -/
def sg (n : Nat) : UInt8 := digitsB.data.getD n 0
theorem sg_lit : ∀ (q : Nat) (h : q < 62), (digitsB[((q : Nat) : Int).toNat]'(by show ((q : Nat) : Int).toNat < 62; omega)).toNat = (sg q).toNat := by decide +kernel
theorem sign_at (m : Int) (h0 : 0 ≤ m) : ∀ W : World, (Instr.index 9 (.string { data := #[48, 49, 50, 51, 52, 53, 54, 55, 56, 57, 65, 66, 67, 68, 69, 70, 71, 72, 73, 74, 75, 76, 77, 78, 79, 80, 81, 82, 83, 84, 85, 86, 87, 88, 89, 90, 97, 98, 99, 100, 101, 102, 103, 104, 105, 106, 107, 108, 109, 110, 111, 112, 113, 114, 115, 116, 117, 118, 119, 120, 121, 122] }) (.int .u64 (m % 62))).run Tryz.prog W = .ok (.int .u8 ((sg (m.toNat % 62)).toNat : Nat)) W := by
  intro W
  obtain ⟨m, rfl⟩ := Int.eq_ofNat_of_zero_le h0
  rw [Int.toNat_natCast]
  have hm : m % 62 < 62 := Nat.mod_lt _ (by omega)
  have e : ((m : Int) % 62) = ((m % 62 : Nat) : Int) := by omega
  rw [e]
  generalize m % 62 = q at *
  rw [run_index_string W 9 _ .u64 (q : Int) Tryz.underlying9]
  rw [dif_pos ⟨by omega, by show (q : Int) < ((62 : Nat) : Int); omega⟩]
  rw [← sg_lit q hm]
  rfl
def ocode (n : Nat) : Bytes × Int := if 238328 ≤ n then ([], 12) else ([sg (n / 3844 % 62), sg (n / 62 % 62), sg (n % 62)], 0)
def u8v (b : UInt8) : Value := .int .u8 (b.toNat : Nat)
def pc (n k : Nat) : Array Value := #[if 3 ≤ k then u8v (sg (n / 3844 % 62)) else .int .u8 0, if 2 ≤ k then u8v (sg (n / 62 % 62)) else .int .u8 0, if 1 ≤ k then u8v (sg (n % 62)) else .int .u8 0]
/-- What a function returns that makes a text of a number. -/
def RetStr (w w' : World) (e : Ending) (r : Bytes × Int) : Prop := ∃ (m : Bytes) (k : Int), Hid ((m, k) = r) ∧ e = .returned (.tuple #[str m, .int .i64 k]) ∧ Ext w w'
theorem pc3 (n : Nat) : pc n 3 = (bv [sg (n / 3844 % 62), sg (n / 62 % 62), sg (n % 62)]).toArray := rfl
set_option maxHeartbeats 400000 in
theorem code_b (d : Int) (w : World) (hd : 0 ≤ d ∧ d ≤ 18446744073709551615) :
    Calls Tryz.prog 115 #[.int .u64 d] w fun e w' => RetStr w w' e (ocode d.toNat) := by
  by_cases hb : (238328 : Int) ≤ d
  · have E : Hid (ocode d.toNat = ([], 12)) := if_pos (by omega)
    go_enter Tryz.func115, Tryz.ntmps115
    go_wp2_with (go_at_call 127; refine (most_b _).mono ?_; rintro e w1 ⟨rfl, rfl⟩)
    go_ret2
    exact ⟨_, _, by rw [E.out]; rfl, rfl, Ext.rfl' _⟩
  · have E : Hid (ocode d.toNat = ([sg (d.toNat / 3844 % 62), sg (d.toNat / 62 % 62), sg (d.toNat % 62)], 0)) := if_neg (by omega)
    have hmk := make_u8 3 (by decide) 3 rfl
    obtain ⟨Z, hZ⟩ : ∃ Z, Z = (List.replicate 3 (Value.int .u8 0)).toArray := ⟨_, rfl⟩
    rw [← hZ] at hmk
    have HZ := hide hZ
    clear hZ
    have HB : Hid (d < 238328) := by unfold Hid; omega
    go_enter Tryz.func115, Tryz.ntmps115
    go_wp2_with (go_at_call 127; refine (most_b _).mono ?_; rintro e w1 ⟨rfl, rfl⟩)
    go_loopw [0, 12] (fun nv i wr => ∃ (k : Nat) (m : Int) (cur : Array Value), (k : Int) ≤ 3 ∧ i = .int .i64 k ∧ nv = .int .u64 m ∧ Hid (m = ((d.toNat / 62 ^ k : Nat) : Int)) ∧ 0 ≤ m ∧ m < 238328 ∧ Blk wr w.heap.size 5 cur ∧ Hid (cur = pc d.toNat k) ∧ Ext w wr) (fun _ i _ => (3 - intOf i).toNat)
    case atStart => exact ⟨0, d, Z, by decide, rfl, rfl, by unfold Hid; simp; omega, hd.1, HB.out, Blk.new w _ _, hide (by rw [HZ.out]; rfl), (Ext.rfl' w).alloc' _⟩
    case round =>
      obtain ⟨k, m, cur, hk, rfl, rfl, hm, hm0, hmlt, hc, hcur, hxr⟩ := hrel
      have hsg := sign_at m hm0
      by_cases hlt : (k : Int) < 3
      · have hsz : cur.size = 3 := by rw [hcur.out]; rfl
        obtain ⟨j, hj⟩ : ∃ j : Nat, (2 : Int) - k = j := ⟨2 - k, by omega⟩
        have hjk : j = 2 - k := by omega
        obtain ⟨u, hu⟩ : ∃ u, cur[j]? = some u := ⟨cur[j]'(by omega), by simp⟩
        have hcell : wr.cell? ⟨w.heap.size, j, none⟩ = some u := by rw [hc.cell, hu]
        have hfr := hc.frozen j
        have HJ := hide hjk
        clear hu hsz hjk
        go_wp2
        refine ⟨⟨k + 1, m / 62, cur.setIfInBounds j (u8v (sg (m.toNat % 62))), by omega, by go_num, rfl, ?_, by omega, by omega, hc.set_ j _, ?_, hxr.set' (by simp) _⟩, by simp [intOf]; omega⟩
        · unfold Hid
          rw [hm.out, Nat.pow_succ, ← Nat.div_div_eq_div_mul]; rfl
        · unfold Hid
          rw [hcur.out, hm.out, HJ.out, Int.toNat_natCast]
          have hk3 : k = 0 ∨ k = 1 ∨ k = 2 := by omega
          rcases hk3 with rfl | rfl | rfl
          · simp [pc]
          · simp [pc]
          · simp [pc]
      · obtain rfl : k = 3 := by omega
        have hb3 : Bs wr (.slice (some ⟨w.heap.size, 0, none⟩) 3 3) [sg (d.toNat / 3844 % 62), sg (d.toNat / 62 % 62), sg (d.toNat % 62)] := by
          refine Bs.mk' rfl (by omega) (by simp [maxLen]) ⟨by simp, fun hn => ⟨_, rfl, hc.lt, fun j u hu => ?_⟩⟩
          have hadd : (⟨w.heap.size, 0, none⟩ : Addr).add j = ⟨w.heap.size, j, none⟩ := by unfold Addr.add; split <;> simp_all
          rw [hadd, hc.cell, hcur.out, pc3, List.getElem?_toArray]
          exact hu
        have ks := run_str (P := Tryz.prog) hb3 Tryz.underlying22 Tryz.underlying5 Tryz.underlying9
        go_wp2
        go_ret2
        exact ⟨_, _, by rw [E.out]; rfl, rfl, hxr⟩
/-- a sign's number; below 0: none -/
def dig (c : UInt8) : Int := Lib.indexByte digitsB.data.toList c
def onfold : Bytes → Int → Option Int
  | [], v => some v
  | c :: l, v => if dig c < 0 then none else onfold l (v * 62 + dig c)
def onum (l : Bytes) : Int × Int := if l.length = 3 then (match onfold l 0 with | some v => (v, 0) | none => (0, 9)) else (0, 9)
theorem onum_none (l : Bytes) (h : onfold l 0 = none) : Hid (onum l = (0, 9)) := by unfold Hid onum; rw [h]; split <;> rfl
def NumAt (l : Bytes) (k : Nat) (v : Int) : Prop := onfold (l.drop k) v = onfold l 0
theorem NumAt.step {l : Bytes} {k : Nat} {v : Int} (h : Hid (NumAt l k v)) (hk : k < l.length) (hd : ¬ dig l[k] < 0) : Hid (NumAt l (k + 1) (v * 62 + dig l[k])) := by
  have h1 := h.out
  unfold NumAt at h1
  rw [List.drop_eq_getElem_cons hk, onfold, if_neg hd] at h1
  exact h1
theorem NumAt.none_ {l : Bytes} {k : Nat} {v : Int} (h : Hid (NumAt l k v)) (hk : k < l.length) (hd : dig l[k] < 0) : Hid (onum l = (0, 9)) := by
  have h1 := h.out
  unfold NumAt at h1
  rw [List.drop_eq_getElem_cons hk, onfold, if_pos hd] at h1
  exact onum_none l h1.symm
def fst (s : ByteArray) (c : UInt8) : Int := if Lib.indexByte s.data.toList c < 0 then (s.size : Int) else Lib.indexByte s.data.toList c
end Go.Proofs.YtamimdlaclglkaaGreat
namespace Go.Proofs.YtamimdlaclglkaaGreat
set_option linter.unusedVariables false
set_option linter.unusedSimpArgs false
set_option linter.unnecessarySimpa false
set_option maxRecDepth 100000
open Go.RowKit
end Go.Proofs.YtamimdlaclglkaaGreat
