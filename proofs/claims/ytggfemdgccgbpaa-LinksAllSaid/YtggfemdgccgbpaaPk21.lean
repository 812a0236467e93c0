import Derived.Test.YtggfemdgccgbpaaPk20
import Derived.Lib.Bytealg
/- The search for a name in a table of links. -/
namespace Go.Proofs.Ytggfemdgccgbpaa
set_option linter.unusedVariables false
set_option linter.unusedSimpArgs false
set_option linter.unnecessarySimpa false
set_option maxRecDepth 100000
open Go.RowKit
theorem cmpB_spec : ∀ a b : Bytes, (Lib.compareBytes a b < 0 ↔ Op.bytesLess a b = true) ∧ (Lib.compareBytes a b = 0 ↔ a = b)
  | [], [] => by simp [Lib.compareBytes, Op.bytesLess]
  | [], _ :: _ => by simp [Lib.compareBytes, Op.bytesLess]
  | _ :: _, [] => by simp [Lib.compareBytes, Op.bytesLess]
  | a :: x, b :: y => by
    have ih := cmpB_spec x y
    unfold Lib.compareBytes Op.bytesLess
    rcases Nat.lt_trichotomy a.toNat b.toNat with h | h | h
    · have h1 : a < b := UInt8.lt_iff_toNat_lt.2 h
      have h2 : a ≠ b := fun e => by rw [e] at h; omega
      simp [h1, h2]
    · have h1 : a = b := UInt8.toNat_inj.1 h
      subst h1
      have h2 : ¬ a < a := fun e => by have := UInt8.lt_iff_toNat_lt.1 e; omega
      simp [h2, ih]
    · have h1 : ¬ a < b := fun e => by have := UInt8.lt_iff_toNat_lt.1 e; omega
      have h2 : b < a := UInt8.lt_iff_toNat_lt.2 h
      have h3 : a ≠ b := fun e => by rw [e] at h; omega
      simp [h1, h2, h3]
theorem cmpStr_b (a b : Bytes) (w : World) : Calls Try.prog 57 #[str a, str b] w fun e w' => e = .returned (.int .i64 (Lib.compareBytes a b)) ∧ w' = w := by
  have h0 : Calls Try.prog 60 #[str a, str b] w fun e w' => e = .returned (.int .i64 (Lib.compareBytes a b)) ∧ w' = w := by
    go_enter Try.func60, Try.ntmps60
    go_wp2
    rw [run_callFunc_extern Try.func63 (by kernel_rfl) (by kernel_rfl) (by kernel_rfl) (e := Extern.BytealgCompare.compare) (by kernel_rfl), Lib.run_compareString]
    simp only [Result.andThen]
    rw [Oper.upon_value]
    go_wp2
    go_ret
    exact ⟨rfl, rfl⟩
  have H0 := hide h0
  clear h0
  go_enter Try.func57, Try.ntmps57
  go_wp2_with (go_at_call 60; refine H0.out.mono ?_; rintro e w' ⟨rfl, rfl⟩)
  go_ret
  exact ⟨rfl, rfl⟩
theorem cmpLn_b (s : Ln) (c : Bytes) (w : World) :
    Calls Try.prog 56 #[.agg #[str s.name, str s.url, .int .u64 s.till, .bool s.made], str c] w fun e w' => RetCmp (Op.bytesLess s.name c) (decide (s.name = c)) w w' e := by
  have H0 := hide (fun W => cmpStr_b s.name c W)
  have hc := cmpB_spec s.name c
  go_enter Try.func56, Try.ntmps56
  go_wp2_with (go_at_call 57; refine (H0.out _).mono ?_; rintro e w' ⟨rfl, rfl⟩)
  go_ret
  exact ⟨_, rfl, hide (by rw [decide_eq_true_eq]; exact hc), (Ext.rfl' w).alloc' _⟩
set_option maxHeartbeats 1600000 in
theorem searchLn_b (x : Value) (l : List Ln) (c : Bytes) (w : World) (hl : l.length ≤ 100000) (hx : Enc.Sl lnE w noneAt x l) (hc : c.length ≤ maxLen) (hm : Mono (fun s : Ln => Op.bytesLess s.name c) l) :
    Calls Try.prog 55 #[x, str c, .func (.func 56) #[] #[]] w fun e w' =>
      RetAt (cntP (fun s : Ln => Op.bytesLess s.name c) l) ((l[cntP (fun s : Ln => Op.bytesLess s.name c) l]?).any fun s => decide (s.name = c)) w w' e := by
  obtain ⟨A, cap, rfl, k1, k2⟩ := hx.form
  have HM := hide hm
  clear hm
  go_enter Try.func55, Try.ntmps55
  go_wp2
  go_loopw [9, 10] (fun i j wr => ∃ a b : Nat, a ≤ b ∧ b ≤ l.length ∧ i = .int .i64 a ∧ j = .int .i64 b ∧ Hid ((∀ m s, m < a → l[m]? = some s → Op.bytesLess s.name c = true) ∧ (∀ m s, b ≤ m → l[m]? = some s → Op.bytesLess s.name c = false)) ∧ Ext w wr) (fun i j _ => (intOf j - intOf i).toNat)
  case atStart => exact ⟨0, l.length, Nat.zero_le _, Nat.le_refl _, rfl, rfl, hide ⟨fun m s h => by omega, fun m s h hs => by rw [List.getElem?_eq_none h] at hs; cases hs⟩, Ext.rfl' w⟩
  case round =>
    obtain ⟨a, b, hab, hbl, rfl, rfl, hlo, hx1⟩ := hrel
    by_cases hlt : a < b
    · obtain ⟨h, hh⟩ : ∃ h : Nat, h = (a + b) / 2 := ⟨_, rfl⟩
      have hha : a ≤ h := by omega
      have hhb : h < b := by omega
      have hhe : ((a : Int) + b) / 2 = h := by omega
      clear hh
      obtain ⟨ad, s, rfl, hs, hbk, p0, p1, p2, p3, r1, r2, r3⟩ := ln_at (hx.ext hx1) (k := h) (by omega)
      go_wp2_with fail
      refine (cmpLn_b s c _).mono ?_
      rintro e w2 ⟨r, rfl, hr, hx2⟩
      by_cases hlt2 : Op.bytesLess s.name c = true
      · have hr2 : r < 0 := hr.out.1.2 hlt2
        go_wp2
        go_roundw
        case rel =>
          refine ⟨h + 1, b, by omega, hbl, by go_num, rfl, hide ⟨fun m t hm ht => ?_, hlo.out.2⟩, hx1.trans' hx2⟩
          exact HM.out m h t s (by omega) ht hs.out hlt2
        case measure => simp [intOf]; omega
      · have hr2 : ¬ r < 0 := fun h => hlt2 (hr.out.1.1 h)
        go_wp2
        go_roundw
        case rel =>
          refine ⟨a, h, by omega, by omega, rfl, rfl, hide ⟨hlo.out.1, fun m t hm ht => ?_⟩, hx1.trans' hx2⟩
          rcases Bool.eq_false_or_eq_true (Op.bytesLess t.name c) with h1 | h1
          · exact absurd (HM.out h m s t hm hs.out ht h1) hlt2
          · exact h1
        case measure => simp [intOf]; omega
    · obtain rfl : a = b := by omega
      have hcn : cntP (fun s : Ln => Op.bytesLess s.name c) l = a := cntP_at _ l a hbl hlo.out.1 hlo.out.2
      have HC := hide hcn
      clear hcn
      by_cases hal : a < l.length
      · obtain ⟨ad, s, rfl, hs, hbk, p0, p1, p2, p3, r1, r2, r3⟩ := ln_at (hx.ext hx1) (k := a) hal
        go_wp2_with fail
        refine (cmpLn_b s c _).mono ?_
        rintro e w2 ⟨r, rfl, hr, hx2⟩
        by_cases heq : decide (s.name = c) = true
        · have hr2 : r = 0 := hr.out.2.2 heq
          subst hr2
          go_wp2
          go_ret2
          refine ⟨?_, hx1.trans' hx2⟩
          rw [HC.out, hs.out]
          show Ending.returned (.tuple #[.int .i64 (a : Nat), .bool true]) = Ending.returned (.tuple #[.int .i64 (a : Nat), .bool (decide (s.name = c))])
          rw [show (decide (s.name = c)) = true from heq]
        · have hr2 : (r == 0) = false := by
            simp only [beq_eq_false_iff_ne, ne_eq]
            intro h; exact heq (hr.out.2.1 h)
          go_wp2
          go_ret2
          refine ⟨?_, hx1.trans' hx2⟩
          rw [HC.out, hs.out]
          show Ending.returned (.tuple #[.int .i64 (a : Nat), .bool false]) = Ending.returned (.tuple #[.int .i64 (a : Nat), .bool (decide (s.name = c))])
          rw [show (decide (s.name = c)) = false from Bool.eq_false_iff.2 heq]
      · have hln : l[a]? = none := List.getElem?_eq_none (by omega)
        have HL := hide hln
        clear hln
        go_wp2
        go_ret2
        refine ⟨?_, hx1⟩
        rw [HC.out, HL.out]
        rfl
end Go.Proofs.Ytggfemdgccgbpaa

