import Derived.Test.YtamimdlaclglkaaPk2
import Derived.Test.YtamimdlaclglkaaPk3
import Derived.Deep.WholeRow
import Derived.Lib.SlBytesConst
/- octet: the sum of bytes, frames. -/
namespace Go.Proofs.Ytamimdlaclglkaa
set_option linter.unusedVariables false
set_option linter.unusedSimpArgs false
set_option linter.unnecessarySimpa false
set_option maxRecDepth 100000
open Go.RowKit

theorem crc_step (c : Nat) (h : c < 4294967296) :
    bits .xor .u32 ((c : Int) / 2) (bits .and .u32 3988292384 (-bits .and .u32 (c : Int) 1 % 4294967296)) = (Crc.step c : Nat) := by
  have e1 : bits .and .u32 (c : Int) 1 = ((c % 2 : Nat) : Int) := by
    have := u32_and_nat c 1 h (by omega)
    rw [Nat.and_one_is_mod] at this
    exact this
  rw [e1]
  have e2 : (c : Int) / 2 = ((c / 2 : Nat) : Int) := by omega
  rw [e2]
  unfold Crc.step
  rcases Nat.mod_two_eq_zero_or_one c with h0 | h0
  · rw [h0, if_neg (by omega)]
    have := u32_xor_nat (c / 2) 0 (by omega) (by omega)
    exact this
  · rw [h0, if_pos rfl]
    have := u32_xor_nat (c / 2) 3988292384 (by omega) (by omega)
    exact this
theorem tab_one (T : Array Value) (h : Hid (T.size = 256)) (hk : Hid (∀ k, k < 256 → T[k]? = some (.int .u32 (Crc.tab k : Nat)))) : T.all (·.oneCell') = true := by
  rw [Array.all_eq_true]
  intro i hi
  have := hk.out i (by have := h.out; omega)
  rw [Array.getElem?_eq_getElem hi] at this
  rw [Option.some.inj this]; rfl
def tabZ : Array Value := Array.replicate 256 (.int .u32 0)
theorem tabZ_size : tabZ.size = 256 := by simp [tabZ]



























































theorem u8_xor_nat (a b : Nat) (ha : a < 256) (hb : b < 256) : bits .xor .u8 (a : Int) (b : Int) = ((a ^^^ b : Nat) : Int) := by
  have hx : a ^^^ b < 2 ^ 8 := Nat.xor_lt_two_pow (by omega) (by omega)
  show IntKind.u8.wrap ((BitVec.ofInt 8 (a : Int) ^^^ BitVec.ofInt 8 (b : Int)).toNat : Int) = _
  rw [BitVec.toNat_xor, BitVec.ofInt_natCast, BitVec.ofInt_natCast, BitVec.toNat_ofNat, BitVec.toNat_ofNat, IntKind.wrap_u8, Nat.mod_eq_of_lt (by omega), Nat.mod_eq_of_lt (by omega)]
  omega
theorem crc_byte (c : Nat) (x : UInt8) (h : c < 4294967296) : ∃ n : Nat, (n : Int) ≤ 255 ∧ bits .xor .u8 ((c : Int) % 256) (x.toNat : Int) = (n : Int) ∧
    Hid (bits .xor .u32 (Crc.tab n : Nat) ((c : Int) / 256) = (Crc.byte c x : Nat)) := by
  have hx := x.toNat_lt
  have hn : (c % 256 ^^^ x.toNat) < 2 ^ 8 := Nat.xor_lt_two_pow (by omega) (by omega)
  refine ⟨c % 256 ^^^ x.toNat, by omega, ?_, ?_⟩
  · have := u8_xor_nat (c % 256) x.toNat (by omega) (by omega)
    rw [← this]; simp
  · have e := u32_xor_nat (Crc.tab (c % 256 ^^^ x.toNat)) (c / 256) (Crc.steps_lt 8 _ (by omega)) (by omega)
    have e2 : ((c / 256 : Nat) : Int) = (c : Int) / 256 := by omega
    rw [e2] at e
    exact e
theorem crc_end (c : Nat) (h : c < 4294967296) : bits .xor .u32 IntKind.u32.max (c : Int) = ((4294967295 - c : Nat) : Int) := by
  have e1 : IntKind.u32.max = ((4294967295 : Nat) : Int) := by decide
  rw [e1, u32_xor_nat _ _ (by omega) h]
  have e2 : (BitVec.ofNat 32 c ^^^ BitVec.allOnes 32).toNat = 4294967295 - c := by
    rw [BitVec.xor_allOnes, BitVec.toNat_not, BitVec.toNat_ofNat, Nat.mod_eq_of_lt (by omega)]
  rw [BitVec.toNat_xor, BitVec.toNat_ofNat, Nat.mod_eq_of_lt (by omega), BitVec.toNat_allOnes] at e2
  rw [Nat.xor_comm]
  exact congrArg Int.ofNat e2

































































def oframe (b : Bytes) : Bytes := be 4 b.length ++ be 4 (Crc.sum b) ++ b
theorem oput_n (b : Bytes) (v n : Nat) (h : n ≤ 8) : oput b v n = b ++ be n v := by rw [oput, if_neg (by omega)]; simp
































def ounframe (b : Bytes) : Bytes × Int × Int :=
  if b.length < 8 ∨ b.length - 8 < val (b.take 4) then ([], 0, 3)
  else if Crc.sum ((b.drop 8).take (val (b.take 4))) ≠ val ((b.drop 4).take 4) then ([], 0, 2)
  else ((b.drop 8).take (val (b.take 4)), ((8 + val (b.take 4) : Nat) : Int), 0)
theorem take_ok (x : Value) (b : Bytes) (n : Nat) (w : World) (hn : n ≤ 8) (hl : b.length ≤ 140737488355328) (hr : Bs w x b) (h : n ≤ b.length) :
    Calls Try.prog 34 #[x, .int .i64 n] w fun e w' => ∃ k : Nat, Hid (k = val (b.take n)) ∧ k < 256 ^ n ∧ e = .returned (.tuple #[.int .u64 k, .int .i64 0]) ∧ w = w' := by
  refine (take_b x b n w (by omega) hl hr).mono ?_
  rintro e w' ⟨rfl, rfl⟩
  rcases otake_cases b n hn with ⟨h1, _⟩ | ⟨_, e1⟩
  · omega
  · have hlt := val_lt (b.take n)
    rw [List.length_take, Nat.min_eq_left h] at hlt
    rw [e1]
    exact ⟨_, hide rfl, hlt, rfl, rfl⟩
theorem take_short (x : Value) (b : Bytes) (n : Nat) (w : World) (hn : n ≤ 8) (hl : b.length ≤ 140737488355328) (hr : Bs w x b) (h : b.length < n) :
    Calls Try.prog 34 #[x, .int .i64 n] w fun e w' => e = .returned (.tuple #[.int .u64 0, .int .i64 3]) ∧ w = w' := by
  refine (take_b x b n w (by omega) hl hr).mono ?_
  rintro e w' ⟨rfl, rfl⟩
  rcases otake_cases b n hn with ⟨_, e1⟩ | ⟨h1, _⟩
  · rw [e1]; exact ⟨rfl, rfl⟩
  · omega
theorem unframe_short (b : Bytes) (h : b.length < 8 ∨ b.length - 8 < val (b.take 4)) : ounframe b = ([], 0, 3) := if_pos h






































































theorem Ext.allocM {a b : World} (h : Ext a b) (o : Obj) : Ext a (b.alloc o) := Below.alloc h h.size o
theorem lit_12 (w : World) (g : Nat) (hg : w.heap.size = g) : Bs (w.alloc (.cells #[.int .u8 1, .int .u8 2] 5)) (.slice (some ⟨g, 0, none⟩) 2 2) [1, 2] := Bs.lit 5 [1, 2] g hg (by simp [maxLen]) (0, 0)
theorem lit_7 (w : World) (g : Nat) (hg : w.heap.size = g) : Bs (w.alloc (.cells #[.int .u8 7] 5)) (.slice (some ⟨g, 0, none⟩) 1 1) [7] := Bs.lit 5 [7] g hg (by simp [maxLen]) (0, 0)
theorem lit_8 (w : World) (g : Nat) (hg : w.heap.size = g) : Bs (w.alloc (.cells #[.int .u8 8] 5)) (.slice (some ⟨g, 0, none⟩) 1 1) [8] := Bs.lit 5 [8] g hg (by simp [maxLen]) (0, 0)
theorem lit_19 (w : World) (g : Nat) (hg : w.heap.size = g) : Bs (w.alloc (.cells #[.int .u8 49, .int .u8 50, .int .u8 51, .int .u8 52, .int .u8 53, .int .u8 54, .int .u8 55, .int .u8 56, .int .u8 57] 5 (9, 10))) (.slice (some ⟨g, 0, none⟩) 9 9) [49, 50, 51, 52, 53, 54, 55, 56, 57] :=
  Bs.lit 5 [49, 50, 51, 52, 53, 54, 55, 56, 57] g hg (by simp [maxLen]) (9, 10)



















































end Go.Proofs.Ytamimdlaclglkaa

/- octet: plain laws of its functions: what is put is taken. -/
namespace Go.Proofs.Ytamimdlaclglkaa
set_option linter.unusedVariables false
set_option linter.unusedSimpArgs false
set_option linter.unnecessarySimpa false
set_option maxRecDepth 100000
open Go.RowKit
theorem val_cons (x : UInt8) (l : Bytes) : val (x :: l) = x.toNat * 256 ^ l.length + val l := by
  have key : ∀ (l : Bytes) (a : Nat), l.foldl (fun a b => a * 256 + b.toNat) a = a * 256 ^ l.length + val l := by
    intro l
    induction l with
    | nil => intro a; simp [val]
    | cons y l ih =>
      intro a
      have h2 := ih y.toNat
      simp only [List.foldl_cons, List.length_cons, val]
      rw [ih (a * 256 + y.toNat), ih (0 * 256 + y.toNat)]
      simp only [Nat.zero_mul, Nat.zero_add, Nat.pow_succ, Nat.add_mul]
      rw [Nat.mul_assoc, Nat.mul_comm 256, Nat.add_assoc]
  have := key l x.toNat
  simpa [val] using this
theorem val_be (n v : Nat) : val (be n v) = v % 256 ^ n := by
  induction n with
  | zero => simp [be, val, Nat.mod_one]
  | succ n ih =>
    rw [be, val_cons, be_length, ih]
    have e1 : (2 : Nat) ^ (8 * n) = 256 ^ n := by rw [Nat.pow_mul]
    have e3 : v % 256 ^ (n + 1) = v % 256 ^ n + 256 ^ n * (v / 256 ^ n % 256) := by rw [Nat.pow_succ, Nat.mod_mul]
    have e2 : (UInt8.ofNat (v / 256 ^ n)).toNat = v / 256 ^ n % 256 := by rw [UInt8.toNat_ofNat']
    rw [e1, e2, e3, Nat.mul_comm]
    omega
theorem oframe_length (b : Bytes) : (oframe b).length = b.length + 8 := by simp [oframe, be_length]; omega
theorem oputBytes_length (b s : Bytes) : (oputBytes b s).length = b.length + s.length + 4 := by simp [oputBytes, be_length]; omega
theorem drop_app {α : Type} (l m : List α) (n : Nat) (h : l.length = n) : (l ++ m).drop n = m := by subst h; simp
theorem take_app {α : Type} (l m : List α) (n : Nat) (h : l.length = n) : (l ++ m).take n = l := by subst h; simp
/-- A frame is read, whatever stands behind. -/
theorem ounframe_oframe (b more : Bytes) (h : b.length < 4294967296) : ounframe (oframe b ++ more) = (b, ((b.length + 8 : Nat) : Int), 0) := by
  have e0 : oframe b ++ more = be 4 b.length ++ (be 4 (Crc.sum b) ++ (b ++ more)) := by simp [oframe]
  have e1 : (oframe b ++ more).take 4 = be 4 b.length := by rw [e0]; exact take_app _ _ _ (be_length _ _)
  have e2 : (oframe b ++ more).drop 4 = be 4 (Crc.sum b) ++ (b ++ more) := by rw [e0]; exact drop_app _ _ _ (be_length _ _)
  have e3 : (oframe b ++ more).drop 8 = b ++ more := by
    rw [show 8 = 4 + 4 from rfl, ← List.drop_drop, e2]; exact drop_app _ _ _ (be_length _ _)
  have e4 : (((oframe b ++ more).drop 4)).take 4 = be 4 (Crc.sum b) := by rw [e2]; exact take_app _ _ _ (be_length _ _)
  have e5 : val (be 4 b.length) = b.length := by rw [val_be]; exact Nat.mod_eq_of_lt (by simpa using h)
  have e6 : val (be 4 (Crc.sum b)) = Crc.sum b := by rw [val_be]; exact Nat.mod_eq_of_lt (by simpa using Crc.sum_lt b)
  have hl : (oframe b ++ more).length = b.length + 8 + more.length := by rw [List.length_append, oframe_length]
  have hs : ¬ ((oframe b ++ more).length < 8 ∨ (oframe b ++ more).length - 8 < val ((oframe b ++ more).take 4)) := by rw [e1, e5, hl]; omega
  unfold ounframe
  rw [if_neg hs, e1, e5, e3, e4, e6, take_app b more b.length rfl, if_neg (by simp)]
  simp only [Prod.mk.injEq, true_and, and_true]
  omega
/-- A frame that is cut off is short. -/
theorem ounframe_cut (b : Bytes) (p : Nat) (h : b.length < 4294967296) (hp : p < b.length + 8) : ounframe ((oframe b).take p) = ([], 0, 3) := by
  refine if_pos ?_
  have hl : ((oframe b).take p).length = p := by rw [List.length_take, oframe_length]; omega
  rw [hl]
  by_cases h8 : p < 8
  · exact .inl h8
  · right
    have e1 : ((oframe b).take p).take 4 = be 4 b.length := by
      rw [List.take_take, Nat.min_eq_left (by omega)]
      have e0 : oframe b = be 4 b.length ++ (be 4 (Crc.sum b) ++ b) := by simp [oframe]
      rw [e0]; exact take_app _ _ _ (be_length _ _)
    rw [e1, val_be, Nat.mod_eq_of_lt (by simpa using h)]
    omega
theorem otakeBytes_put (b more : Bytes) (h : b.length < 4294967296) : otakeBytes (oputBytes [] b ++ more) = (b, ((b.length + 4 : Nat) : Int), 0) := by
  have e0 : oputBytes [] b ++ more = be 4 b.length ++ (b ++ more) := by simp [oputBytes]
  have e1 : (oputBytes [] b ++ more).take 4 = be 4 b.length := by rw [e0]; exact take_app _ _ _ (be_length _ _)
  have e2 : (oputBytes [] b ++ more).drop 4 = b ++ more := by rw [e0]; exact drop_app _ _ _ (be_length _ _)
  have e5 : val (be 4 b.length) = b.length := by rw [val_be]; exact Nat.mod_eq_of_lt (by simpa using h)
  have hl : (oputBytes [] b ++ more).length = b.length + 4 + more.length := by rw [List.length_append, oputBytes_length]; simp
  have hs : ¬ ((oputBytes [] b ++ more).length < 4 ∨ (oputBytes [] b ++ more).length - 4 < val ((oputBytes [] b ++ more).take 4)) := by rw [e1, e5, hl]; omega
  unfold otakeBytes
  rw [if_neg hs, e1, e5, e2, take_app b more b.length rfl]
  simp only [Prod.mk.injEq, true_and, and_true]
  omega
theorem otakeBytes_cut (b : Bytes) (p : Nat) (h : b.length < 4294967296) (hp : p < b.length + 4) : otakeBytes ((oputBytes [] b).take p) = ([], 0, 3) := by
  refine if_pos ?_
  have hl : ((oputBytes [] b).take p).length = p := by rw [List.length_take, oputBytes_length]; simp; omega
  rw [hl]
  by_cases h4 : p < 4
  · exact .inl h4
  · right
    have e1 : ((oputBytes [] b).take p).take 4 = be 4 b.length := by
      rw [List.take_take, Nat.min_eq_left (by omega)]
      have e0 : oputBytes [] b = be 4 b.length ++ b := by simp [oputBytes]
      rw [e0]; exact take_app _ _ _ (be_length _ _)
    rw [e1, val_be, Nat.mod_eq_of_lt (by simpa using h)]
    omega
theorem val_inj : ∀ (l m : Bytes), l.length = m.length → val l = val m → l = m := by
  intro l
  induction l with
  | nil => intro m h _; cases m <;> simp at h; rfl
  | cons x l ih =>
    intro m h hv
    cases m with
    | nil => simp at h
    | cons y m =>
      have hl : l.length = m.length := by simpa using h
      rw [val_cons, val_cons, hl] at hv
      have h1 := val_lt l
      have h2 := val_lt m
      rw [hl] at h1
      have hx : x.toNat = y.toNat := by
        have e1 : (x.toNat * 256 ^ m.length + val l) / 256 ^ m.length = x.toNat := by
          rw [Nat.mul_comm, Nat.mul_add_div (Nat.pow_pos (by omega)), Nat.div_eq_of_lt h1]; rfl
        have e2 : (y.toNat * 256 ^ m.length + val m) / 256 ^ m.length = y.toNat := by
          rw [Nat.mul_comm, Nat.mul_add_div (Nat.pow_pos (by omega)), Nat.div_eq_of_lt h2]; rfl
        rw [← e1, ← e2, hv]
      rw [hx] at hv
      rw [UInt8.toNat_inj.1 hx, ih m hl (by omega)]
theorem set_app_left {α : Type} (l m : List α) (i : Nat) (x : α) (h : i < l.length) : (l ++ m).set i x = l.set i x ++ m := by rw [List.set_append, if_pos h]
theorem set_app_right {α : Type} (l m : List α) (i : Nat) (x : α) (h : l.length ≤ i) : (l ++ m).set i x = l ++ m.set (i - l.length) x := by rw [List.set_append, if_neg (by omega)]
theorem sum_set (b : Bytes) (i : Nat) (x y : UInt8) (hi : b[i]? = some y) (hne : x ≠ y) : Crc.sum (b.set i x) ≠ Crc.sum b := by
  have hlt := (List.getElem?_eq_some_iff.1 hi).1
  have e1 : b = b.take i ++ y :: b.drop (i + 1) := by
    have := (List.getElem?_eq_some_iff.1 hi).2
    rw [← this]; simp
  have e2 : b.set i x = b.take i ++ x :: b.drop (i + 1) := by rw [List.set_eq_take_append_cons_drop, if_pos hlt]
  intro h
  rw [e2] at h
  conv at h => rhs; rw [e1]
  exact hne (Crc.sum_one _ _ _ _ h)
/-- A frame with one of its bytes behind the length turned is none. -/
theorem ounframe_set (b : Bytes) (j : Nat) (x y : UInt8) (h : b.length < 4294967296) (hj : 4 ≤ j) (hy : (oframe b)[j]? = some y) (hne : x ≠ y) : ounframe ((oframe b).set j x) = ([], 0, 2) := by
  have hjl := (List.getElem?_eq_some_iff.1 hy).1
  rw [oframe_length] at hjl
  have e0 : oframe b = be 4 b.length ++ (be 4 (Crc.sum b) ++ b) := by simp [oframe]
  have e1 : (oframe b).set j x = be 4 b.length ++ (be 4 (Crc.sum b) ++ b).set (j - 4) x := by rw [e0, set_app_right _ _ _ _ (by rw [be_length]; exact hj), be_length]
  have e5 : val (be 4 b.length) = b.length := by rw [val_be]; exact Nat.mod_eq_of_lt (by simpa using h)
  have e6 : val (be 4 (Crc.sum b)) = Crc.sum b := by rw [val_be]; exact Nat.mod_eq_of_lt (by simpa using Crc.sum_lt b)
  have t4 : ((oframe b).set j x).take 4 = be 4 b.length := by rw [e1]; exact take_app _ _ _ (be_length _ _)
  have d4 : ((oframe b).set j x).drop 4 = (be 4 (Crc.sum b) ++ b).set (j - 4) x := by rw [e1]; exact drop_app _ _ _ (be_length _ _)
  have hl : ((oframe b).set j x).length = b.length + 8 := by rw [List.length_set, oframe_length]
  have hs : ¬ (((oframe b).set j x).length < 8 ∨ ((oframe b).set j x).length - 8 < val (((oframe b).set j x).take 4)) := by rw [t4, e5, hl]; omega
  have d8 : ((oframe b).set j x).drop 8 = ((be 4 (Crc.sum b) ++ b).set (j - 4) x).drop 4 := by rw [show 8 = 4 + 4 from rfl, ← List.drop_drop, d4]
  have hy2 : (be 4 (Crc.sum b) ++ b)[j - 4]? = some y := by
    rw [e0, List.getElem?_append_right (by rw [be_length]; exact hj), be_length] at hy
    exact hy
  unfold ounframe
  rw [if_neg hs, t4, e5, d8, d4]
  refine if_pos ?_
  by_cases h8 : j - 4 < 4
  · have e7 : (be 4 (Crc.sum b) ++ b).set (j - 4) x = (be 4 (Crc.sum b)).set (j - 4) x ++ b := set_app_left _ _ _ _ (by rw [be_length]; exact h8)
    rw [e7, drop_app _ _ _ (by rw [List.length_set, be_length]), take_app _ _ _ (by rw [List.length_set, be_length]), List.take_length]
    intro heq
    have h9 : be 4 (Crc.sum b) = (be 4 (Crc.sum b)).set (j - 4) x := val_inj _ _ (by simp) (by rw [e6]; exact heq)
    have h10 : (be 4 (Crc.sum b))[j - 4]? = ((be 4 (Crc.sum b)).set (j - 4) x)[j - 4]? := by rw [← h9]
    rw [List.getElem?_set_self (by rw [be_length]; exact h8)] at h10
    rw [List.getElem?_append_left (by rw [be_length]; exact h8)] at hy2
    rw [hy2] at h10
    exact hne (Option.some.inj h10).symm
  · have e7 : (be 4 (Crc.sum b) ++ b).set (j - 4) x = be 4 (Crc.sum b) ++ b.set (j - 4 - 4) x := by rw [set_app_right _ _ _ _ (by rw [be_length]; omega), be_length]
    rw [e7, drop_app _ _ _ (be_length _ _), take_app _ _ _ (be_length _ _), e6, List.take_of_length_le (by simp)]
    rw [List.getElem?_append_right (by rw [be_length]; omega), be_length] at hy2
    exact sum_set b _ x y hy2 hne
end Go.Proofs.Ytamimdlaclglkaa

