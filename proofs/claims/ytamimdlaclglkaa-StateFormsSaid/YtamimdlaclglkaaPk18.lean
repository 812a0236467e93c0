import Derived.Test.YtamimdlaclglkaaPk17
/- code.Put: what it makes of a number. -/
namespace Go.Proofs.Ytamimdlaclglkaa
set_option linter.unusedVariables false
set_option linter.unusedSimpArgs false
set_option linter.unnecessarySimpa false
set_option maxRecDepth 100000
open Go.RowKit
def digitsB : ByteArray := { data := #[48, 49, 50, 51, 52, 53, 54, 55, 56, 57, 65, 66, 67, 68, 69, 70, 71, 72, 73, 74, 75, 76, 77, 78, 79, 80, 81, 82, 83, 84, 85, 86, 87, 88, 89, 90, 97, 98, 99, 100, 101, 102, 103, 104, 105, 106, 107, 108, 109, 110, 111, 112, 113, 114, 115, 116, 117, 118, 119, 120, 121, 122] }
/-- the sign of a number below 62 -/
def sg (n : Nat) : UInt8 := digitsB.data.getD n 0
theorem sg_lit : ∀ (q : Nat) (h : q < 62), (digitsB[((q : Nat) : Int).toNat]'(by show ((q : Nat) : Int).toNat < 62; omega)).toNat = (sg q).toNat := by decide +kernel
theorem sign_at (m : Int) (h0 : 0 ≤ m) : ∀ W : World, (Instr.index 9 (.string { data := #[48, 49, 50, 51, 52, 53, 54, 55, 56, 57, 65, 66, 67, 68, 69, 70, 71, 72, 73, 74, 75, 76, 77, 78, 79, 80, 81, 82, 83, 84, 85, 86, 87, 88, 89, 90, 97, 98, 99, 100, 101, 102, 103, 104, 105, 106, 107, 108, 109, 110, 111, 112, 113, 114, 115, 116, 117, 118, 119, 120, 121, 122] }) (.int .u64 (m % 62))).run Try.prog W = .ok (.int .u8 ((sg (m.toNat % 62)).toNat : Nat)) W := by
  intro W
  obtain ⟨m, rfl⟩ := Int.eq_ofNat_of_zero_le h0
  rw [Int.toNat_natCast]
  have hm : m % 62 < 62 := Nat.mod_lt _ (by omega)
  have e : ((m : Int) % 62) = ((m % 62 : Nat) : Int) := by omega
  rw [e]
  generalize m % 62 = q at *
  rw [run_index_string W 9 _ .u64 (q : Int) Try.underlying9]
  rw [dif_pos ⟨by omega, by show (q : Int) < ((62 : Nat) : Int); omega⟩]
  rw [← sg_lit q hm]
  rfl
def ocode (n : Nat) : Bytes × Int := if 238328 ≤ n then ([], 12) else ([sg (n / 3844 % 62), sg (n / 62 % 62), sg (n % 62)], 0)
def u8v (b : UInt8) : Value := .int .u8 (b.toNat : Nat)
def pc (n k : Nat) : Array Value := #[if 3 ≤ k then u8v (sg (n / 3844 % 62)) else .int .u8 0, if 2 ≤ k then u8v (sg (n / 62 % 62)) else .int .u8 0, if 1 ≤ k then u8v (sg (n % 62)) else .int .u8 0]
/-- What a function returns that makes a text of a number. -/
def RetStr (w w' : World) (e : Ending) (r : Bytes × Int) : Prop := ∃ (m : Bytes) (k : Int), Hid ((m, k) = r) ∧ e = .returned (.tuple #[str m, .int .i64 k]) ∧ Ext w w'
theorem pc3 (n : Nat) : pc n 3 = (bv [sg (n / 3844 % 62), sg (n / 62 % 62), sg (n % 62)]).toArray := rfl
set_option maxHeartbeats 400000 in
theorem code_b (d : Int) (w : World) (hd : 0 ≤ d ∧ d ≤ 18446744073709551615) :
    Calls Try.prog 78 #[.int .u64 d] w fun e w' => RetStr w w' e (ocode d.toNat) := by
  by_cases hb : (238328 : Int) ≤ d
  · have E : Hid (ocode d.toNat = ([], 12)) := if_pos (by omega)
    go_enter Try.func78, Try.ntmps78
    go_wp2_with (go_at_call 89; refine (most_b _).mono ?_; rintro e w1 ⟨rfl, rfl⟩)
    go_ret2
    exact ⟨_, _, by rw [E.out]; rfl, rfl, Ext.rfl' _⟩
  · have E : Hid (ocode d.toNat = ([sg (d.toNat / 3844 % 62), sg (d.toNat / 62 % 62), sg (d.toNat % 62)], 0)) := if_neg (by omega)
    have hmk := make_u8 3 (by decide) 3 rfl
    obtain ⟨Z, hZ⟩ : ∃ Z, Z = (List.replicate 3 (Value.int .u8 0)).toArray := ⟨_, rfl⟩
    rw [← hZ] at hmk
    have HZ := hide hZ
    clear hZ
    have HB : Hid (d < 238328) := by unfold Hid; omega
    go_enter Try.func78, Try.ntmps78
    go_wp2_with (go_at_call 89; refine (most_b _).mono ?_; rintro e w1 ⟨rfl, rfl⟩)
    go_loopw [0, 12] (fun nv i wr => ∃ (k : Nat) (m : Int) (cur : Array Value), (k : Int) ≤ 3 ∧ i = .int .i64 k ∧ nv = .int .u64 m ∧ Hid (m = ((d.toNat / 62 ^ k : Nat) : Int)) ∧ 0 ≤ m ∧ m < 238328 ∧ Blk wr w.heap.size 5 cur ∧ Hid (cur = pc d.toNat k) ∧ Ext w wr) (fun _ i _ => (3 - intOf i).toNat)
    case atStart => exact ⟨0, d, Z, by decide, rfl, rfl, by unfold Hid; simp; omega, hd.1, HB.out, Blk.new w _ _, hide (by rw [HZ.out]; rfl), (Ext.rfl' w).alloc' _⟩
    case round =>
      obtain ⟨k, m, cur, hk, rfl, rfl, hm, hm0, hmlt, hc, hcur, hxr⟩ := hrel
      have hsg := sign_at m hm0
      by_cases hlt : (k : Int) < 3
      · have hsz : cur.size = 3 := by rw [hcur.out]; rfl
        obtain ⟨j, hj⟩ : ∃ j : Nat, (2 : Int) - k = j := ⟨2 - k, by omega⟩
        have hjk : j = 2 - k := by omega
        obtain ⟨u, hu⟩ : ∃ u, cur[j]? = some u := ⟨cur[j]'(by omega), by simp⟩
        have hcell : wr.cell? ⟨w.heap.size, j, none⟩ = some u := by rw [hc.cell, hu]
        have hfr := hc.frozen j
        have HJ := hide hjk
        clear hu hsz hjk
        go_wp2
        refine ⟨⟨k + 1, m / 62, cur.setIfInBounds j (u8v (sg (m.toNat % 62))), by omega, by go_num, rfl, ?_, by omega, by omega, hc.set_ j _, ?_, hxr.set' (by simp) _⟩, by simp [intOf]; omega⟩
        · unfold Hid
          rw [hm.out, Nat.pow_succ, ← Nat.div_div_eq_div_mul]; rfl
        · unfold Hid
          rw [hcur.out, hm.out, HJ.out, Int.toNat_natCast]
          have hk3 : k = 0 ∨ k = 1 ∨ k = 2 := by omega
          rcases hk3 with rfl | rfl | rfl
          · simp [pc]
          · simp [pc]
          · simp [pc]
      · obtain rfl : k = 3 := by omega
        have hb3 : Bs wr (.slice (some ⟨w.heap.size, 0, none⟩) 3 3) [sg (d.toNat / 3844 % 62), sg (d.toNat / 62 % 62), sg (d.toNat % 62)] := by
          refine Bs.mk' rfl (by omega) (by simp [maxLen]) ⟨by simp, fun hn => ⟨_, rfl, hc.lt, fun j u hu => ?_⟩⟩
          have hadd : (⟨w.heap.size, 0, none⟩ : Addr).add j = ⟨w.heap.size, j, none⟩ := by unfold Addr.add; split <;> simp_all
          rw [hadd, hc.cell, hcur.out, pc3, List.getElem?_toArray]
          exact hu
        have ks := run_str (P := Try.prog) hb3 Try.underlying30 Try.underlying5 Try.underlying9
        go_wp2
        go_ret2
        exact ⟨_, _, by rw [E.out]; rfl, rfl, hxr⟩

theorem sign_at2 (m : Int) (h0 : 0 ≤ m) (h1 : m < 62) : ∀ W : World, (Instr.index 9 (.string { data := #[48, 49, 50, 51, 52, 53, 54, 55, 56, 57, 65, 66, 67, 68, 69, 70, 71, 72, 73, 74, 75, 76, 77, 78, 79, 80, 81, 82, 83, 84, 85, 86, 87, 88, 89, 90, 97, 98, 99, 100, 101, 102, 103, 104, 105, 106, 107, 108, 109, 110, 111, 112, 113, 114, 115, 116, 117, 118, 119, 120, 121, 122] }) (.int .u64 m)).run Try.prog W = .ok (.int .u8 ((sg (m.toNat % 62)).toNat : Nat)) W := by
  have h := sign_at m h0
  have e : m % 62 = m := by omega
  rw [e] at h
  exact h
theorem str3 (a b c : UInt8) (W : World) : (convert 30 9 (.slice (some ⟨W.heap.size, 0, none⟩) 3 3)).run Try.prog (W.alloc (.cells #[.int .u8 (a.toNat : Nat), .int .u8 (b.toNat : Nat), .int .u8 (c.toNat : Nat)] 5)).drew =
    .ok (str [a, b, c]) (W.alloc (.cells #[.int .u8 (a.toNat : Nat), .int .u8 (b.toNat : Nat), .int .u8 (c.toNat : Nat)] 5)).drew :=
  run_str (P := Try.prog) (Bs.ext (Bs.lit 5 [a, b, c] W.heap.size rfl (by simp [maxLen]) (0, 0)) (Ext.rfl' _).drew') Try.underlying30 Try.underlying5 Try.underlying9










































/-- a sign's number; below 0: none -/
def dig (c : UInt8) : Int := Lib.indexByte digitsB.data.toList c
theorem indexByte_lt : ∀ (l : Bytes) (c : UInt8), Lib.indexByte l c < l.length
  | [], c => by simp [Lib.indexByte]
  | b :: l, c => by
    have h := indexByte_lt l c
    unfold Lib.indexByte
    split
    · simp
    · split
      · simp; omega
      · simp; omega
theorem dig_bounds (c : UInt8) : -1 ≤ dig c ∧ dig c < 62 := ⟨Lib.indexByte_ge _ _, indexByte_lt _ _⟩
def onfold : Bytes → Int → Option Int
  | [], v => some v
  | c :: l, v => if dig c < 0 then none else onfold l (v * 62 + dig c)
def onum (l : Bytes) : Int × Int := if l.length = 3 then (match onfold l 0 with | some v => (v, 0) | none => (0, 9)) else (0, 9)
theorem onum_none (l : Bytes) (h : onfold l 0 = none) : Hid (onum l = (0, 9)) := by unfold Hid onum; rw [h]; split <;> rfl
theorem onum_some (l : Bytes) (v : Int) (hl : l.length = 3) (h : onfold l 0 = some v) : Hid (onum l = (v, 0)) := by unfold Hid onum; rw [h, if_pos hl]
def NumAt (l : Bytes) (k : Nat) (v : Int) : Prop := onfold (l.drop k) v = onfold l 0
theorem NumAt.step {l : Bytes} {k : Nat} {v : Int} (h : Hid (NumAt l k v)) (hk : k < l.length) (hd : ¬ dig l[k] < 0) : Hid (NumAt l (k + 1) (v * 62 + dig l[k])) := by
  have h1 := h.out
  unfold NumAt at h1
  rw [List.drop_eq_getElem_cons hk, onfold, if_neg hd] at h1
  exact h1
theorem NumAt.none_ {l : Bytes} {k : Nat} {v : Int} (h : Hid (NumAt l k v)) (hk : k < l.length) (hd : dig l[k] < 0) : Hid (onum l = (0, 9)) := by
  have h1 := h.out
  unfold NumAt at h1
  rw [List.drop_eq_getElem_cons hk, onfold, if_pos hd] at h1
  exact onum_none l h1.symm
def RetNum (w w' : World) (e : Ending) (r : Int × Int) : Prop := e = .returned (.tuple #[.int .u64 r.1, .int .i64 r.2]) ∧ w = w'
theorem data_at (s : ByteArray) (k : Nat) (h : k < s.size) : ∃ h2 : k < s.data.toList.length, s.data.toList[k] = s[k] := ⟨by rw [← Lib.size_eq]; exact h, rfl⟩

























































theorem indexByte_none : ∀ (l : Bytes) (c : UInt8), (∀ j (h : j < l.length), l[j] ≠ c) → Lib.indexByte l c = -1
  | [], _, _ => rfl
  | b :: l, c, h => by
    have h0 : b ≠ c := h 0 (by simp)
    have h1 := indexByte_none l c fun j hj => by have := h (j + 1) (by simp; omega); simpa using this
    unfold Lib.indexByte
    rw [if_neg (by simpa using h0), h1]
    rfl
theorem indexByte_at : ∀ (l : Bytes) (c : UInt8) (k : Nat) (hk : k < l.length), (∀ j (_ : j < k) (h : j < l.length), l[j] ≠ c) → l[k] = c → Lib.indexByte l c = k
  | [], _, _, hk, _, _ => by simp at hk
  | b :: l, c, 0, _, _, he => by
    unfold Lib.indexByte
    rw [if_pos (by simpa using he)]
    rfl
  | b :: l, c, k + 1, hk, h, he => by
    have h0 : b ≠ c := h 0 (by omega) (by simp)
    have h1 := indexByte_at l c k (by simpa using hk) (fun j hj hl => by have := h (j + 1) (by omega) (by simp; omega); simpa using this) (by simpa using he)
    unfold Lib.indexByte
    rw [if_neg (by simpa using h0), h1, if_neg (by simp)]
    omega
def fst (s : ByteArray) (c : UInt8) : Int := if Lib.indexByte s.data.toList c < 0 then (s.size : Int) else Lib.indexByte s.data.toList c
def Before (s : ByteArray) (c : UInt8) (k : Nat) : Prop := ∀ j (_ : j < k) (h : j < s.data.toList.length), s.data.toList[j] ≠ c
theorem fst_at {s : ByteArray} {c : UInt8} {k : Nat} (h : Hid (Before s c k)) (hk : k < s.data.toList.length) (he : s.data.toList[k] = c) : Hid (fst s c = (k : Int)) := by
  have h1 := indexByte_at _ c k hk h.out he
  unfold Hid fst
  rw [h1, if_neg (by omega)]
theorem fst_end {s : ByteArray} {c : UInt8} (h : Hid (Before s c s.size)) : Hid (fst s c = (s.size : Int)) := by
  have h1 := indexByte_none s.data.toList c fun j hj => h.out j (by rw [Lib.size_eq]; exact hj) hj
  unfold Hid fst
  rw [h1, if_pos (by omega)]





































theorem fst_dig (c : UInt8) : (dig c < 0 ∧ fst digitsB c = 62) ∨ (¬ dig c < 0 ∧ fst digitsB c = dig c) := by
  unfold fst
  by_cases h : dig c < 0
  · exact .inl ⟨h, if_pos h⟩
  · exact .inr ⟨h, if_neg h⟩
























































end Go.Proofs.Ytamimdlaclglkaa

/- CodeAll: what the law itself does. -/
namespace Go.Proofs.Ytamimdlaclglkaa
set_option linter.unusedVariables false
set_option linter.unusedSimpArgs false
set_option linter.unnecessarySimpa false
set_option maxRecDepth 100000
open Go.RowKit
theorem ocode_61 : ocode (61 : Int).toNat = ([48, 48, 122], 0) := by decide +kernel
theorem onum_00z : onum (ByteArray.mk #[48, 48, 122]).data.toList = (61, 0) := by decide +kernel
theorem alias_abcd : alias (ByteArray.mk #[97, 98, 99, 100]) = true := by decide +kernel
theorem alias_abc : alias (ByteArray.mk #[97, 98, 99]) = false := by decide +kernel






































































end Go.Proofs.Ytamimdlaclglkaa

