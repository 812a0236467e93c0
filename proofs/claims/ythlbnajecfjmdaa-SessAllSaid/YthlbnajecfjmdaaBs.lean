/- Binary searches, and comparisons. -/
import Derived.Test.YthlbnajecfjmdaaSt1
namespace Go.Proofs.Ythlbnajecfjmdaa
set_option linter.unusedVariables false
set_option linter.unusedSimpArgs false
set_option linter.unnecessarySimpa false
set_option maxRecDepth 100000
open Go.RowKit
/-- how many stand below -/
def cntP {α : Type} (p : α → Bool) (l : List α) : Nat := (l.takeWhile p).length
theorem cntP_le {α : Type} (p : α → Bool) (l : List α) : cntP p l ≤ l.length := (List.takeWhile_sublist p).length_le
theorem cntP_at {α : Type} (p : α → Bool) : ∀ (l : List α) (i : Nat), i ≤ l.length → (∀ m a, m < i → l[m]? = some a → p a = true) → (∀ m a, i ≤ m → l[m]? = some a → p a = false) → cntP p l = i
  | [], i, hi, _, _ => by simp [cntP] at *; omega
  | a :: l, 0, hi, _, h2 => by simp [cntP, h2 0 a (Nat.le_refl _) rfl]
  | a :: l, i + 1, hi, h1, h2 => by
    have ih := cntP_at p l i (by simpa using hi) (fun m b hm hb => h1 (m + 1) b (by omega) (by simpa using hb)) (fun m b hm hb => h2 (m + 1) b (by omega) (by simpa using hb))
    unfold cntP at *
    rw [List.takeWhile_cons, if_pos (h1 0 a (by omega) rfl), List.length_cons, ih]
/-- once not below, never below -/
def Mono {α : Type} (p : α → Bool) (l : List α) : Prop := ∀ (i j : Nat) a b, i ≤ j → l[i]? = some a → l[j]? = some b → p b = true → p a = true
set_option maxHeartbeats 800000 in
theorem cmpInt_b (a b : Int) (w : World) (ha : I64 a) (hb : I64 b) :
    Calls Try.prog 77 #[.int .i64 a, .int .i64 b] w fun e w' => (∃ r : Int, e = .returned (.int .i64 r) ∧ ((a < b ∧ r = -1) ∨ (a = b ∧ r = 0) ∨ (b < a ∧ r = 1))) ∧ w = w' := by
  have hn : ∀ (x : Int) (w : World), Calls Try.prog 85 #[.int .i64 x] w fun e w' => e = .returned (.bool false) ∧ w = w' := by
    intro x w
    go_enter Try.func85, Try.ntmps85
    go_wp2
    go_ret
    exact ⟨rfl, rfl⟩
  have HN := hide hn
  clear hn
  rcases Int.lt_trichotomy a b with h | h | h
  · go_enter Try.func77, Try.ntmps77
    go_wp2_with (go_at_call 85; refine (HN.out _ _).mono ?_; rintro e w1 ⟨rfl, rfl⟩)
    go_ret
    exact ⟨⟨-1, rfl, .inl ⟨h, rfl⟩⟩, rfl⟩
  · have h1 : ¬ a < b := by omega
    have h2 : ¬ b < a := by omega
    go_enter Try.func77, Try.ntmps77
    go_wp2_with (go_at_call 85; refine (HN.out _ _).mono ?_; rintro e w1 ⟨rfl, rfl⟩)
    go_ret
    exact ⟨⟨0, rfl, .inr (.inl ⟨h, rfl⟩)⟩, rfl⟩
  · have h1 : ¬ a < b := by omega
    go_enter Try.func77, Try.ntmps77
    go_wp2_with (go_at_call 85; refine (HN.out _ _).mono ?_; rintro e w1 ⟨rfl, rfl⟩)
    go_ret
    exact ⟨⟨1, rfl, .inr (.inr ⟨h, rfl⟩)⟩, rfl⟩
/-- what a comparison with a target says -/
def RetCmp (lt eq : Bool) (w w' : World) (e : Ending) : Prop := ∃ r : Int, e = .returned (.int .i64 r) ∧ Hid ((r < 0 ↔ lt = true) ∧ (r = 0 ↔ eq = true)) ∧ Ext w w'
theorem cmpSe_b (s : Se) (v : Value) (c : Int) (w : World) (hs : I64 s.client) (hc : I64 c) :
    Calls Try.prog 76 #[.agg #[.int .i64 s.client, .int .u64 s.high, v], .int .i64 c] w fun e w' => RetCmp (decide (s.client < c)) (decide (s.client = c)) w w' e := by
  go_enter Try.func76, Try.ntmps76
  go_wp2_with (go_at_call 77; refine (cmpInt_b _ _ _ hs hc).mono ?_; rintro e w1 ⟨⟨r, rfl, hr⟩, rfl⟩)
  go_ret
  exact ⟨r, rfl, hide (by simp; omega), (Ext.rfl' w).alloc' _⟩
def RetAt (n : Nat) (is : Bool) (w w' : World) (e : Ending) : Prop := e = .returned (.tuple #[.int .i64 n, .bool is]) ∧ Ext w w'
set_option maxHeartbeats 1600000 in
theorem searchSe_b (x : Value) (l : List Se) (c : Int) (w : World) (hl : l.length ≤ 100000) (hx : Enc.Sl seE w noneAt x l) (hc : I64 c) (hm : Mono (fun s : Se => decide (s.client < c)) l) :
    Calls Try.prog 75 #[x, .int .i64 c, .func (.func 76) #[] #[]] w fun e w' =>
      RetAt (cntP (fun s : Se => decide (s.client < c)) l) ((l[cntP (fun s : Se => decide (s.client < c)) l]?).any fun s => decide (s.client = c)) w w' e := by
  obtain ⟨A, cap, rfl, k1, k2⟩ := hx.form
  have HM := hide hm
  clear hm
  go_enter Try.func75, Try.ntmps75
  go_wp2
  go_loopw [9, 10] (fun i j wr => ∃ a b : Nat, a ≤ b ∧ b ≤ l.length ∧ i = .int .i64 a ∧ j = .int .i64 b ∧ Hid ((∀ m s, m < a → l[m]? = some s → decide (s.client < c) = true) ∧ (∀ m s, b ≤ m → l[m]? = some s → decide (s.client < c) = false)) ∧ Ext w wr) (fun i j _ => (intOf j - intOf i).toNat)
  case atStart => exact ⟨0, l.length, Nat.zero_le _, Nat.le_refl _, rfl, rfl, hide ⟨fun m s h => by omega, fun m s h hs => by rw [List.getElem?_eq_none h] at hs; cases hs⟩, Ext.rfl' w⟩
  case round =>
    obtain ⟨a, b, hab, hbl, rfl, rfl, hlo, hx1⟩ := hrel
    by_cases hlt : a < b
    · obtain ⟨h, hh⟩ : ∃ h : Nat, h = (a + b) / 2 := ⟨_, rfl⟩
      have hha : a ≤ h := by omega
      have hhb : h < b := by omega
      have hhe : ((a : Int) + b) / 2 = h := by omega
      clear hh
      obtain ⟨ad, s, v, rfl, hs, hbk, p0, p1, p2, r1, r2, r3⟩ := se_at (hx.ext hx1) (k := h) (by omega)
      go_wp2_with fail
      refine (cmpSe_b s v c _ r1 hc).mono ?_
      rintro e w2 ⟨r, rfl, hr, hx2⟩
      by_cases hlt2 : decide (s.client < c) = true
      · have hr2 : r < 0 := hr.out.1.2 hlt2
        go_wp2
        go_roundw
        case rel =>
          refine ⟨h + 1, b, by omega, hbl, by go_num, rfl, hide ⟨fun m t hm ht => ?_, hlo.out.2⟩, hx1.trans' hx2⟩
          exact HM.out m h t s (by omega) ht hs.out hlt2
        case measure => simp [intOf]; omega
      · have hr2 : ¬ r < 0 := fun h => hlt2 (hr.out.1.1 h)
        go_wp2
        go_roundw
        case rel =>
          refine ⟨a, h, by omega, by omega, rfl, rfl, hide ⟨hlo.out.1, fun m t hm ht => ?_⟩, hx1.trans' hx2⟩
          rcases Bool.eq_false_or_eq_true (decide (t.client < c)) with h1 | h1
          · exact absurd (HM.out h m s t hm hs.out ht h1) hlt2
          · exact h1
        case measure => simp [intOf]; omega
    · obtain rfl : a = b := by omega
      have hcn : cntP (fun s : Se => decide (s.client < c)) l = a := cntP_at _ l a hbl hlo.out.1 hlo.out.2
      have HC := hide hcn
      clear hcn
      by_cases hal : a < l.length
      · obtain ⟨ad, s, v, rfl, hs, hbk, p0, p1, p2, r1, r2, r3⟩ := se_at (hx.ext hx1) (k := a) hal
        go_wp2_with fail
        refine (cmpSe_b s v c _ r1 hc).mono ?_
        rintro e w2 ⟨r, rfl, hr, hx2⟩
        by_cases heq : decide (s.client = c) = true
        · have hr2 : r = 0 := hr.out.2.2 heq
          subst hr2
          go_wp2
          go_ret2
          refine ⟨?_, hx1.trans' hx2⟩
          rw [HC.out, hs.out]
          show Ending.returned (.tuple #[.int .i64 (a : Nat), .bool true]) = Ending.returned (.tuple #[.int .i64 (a : Nat), .bool (decide (s.client = c))])
          rw [show (decide (s.client = c)) = true from heq]
        · have hr2 : (r == 0) = false := by
            simp only [beq_eq_false_iff_ne, ne_eq]
            intro h; exact heq (hr.out.2.1 h)
          go_wp2
          go_ret2
          refine ⟨?_, hx1.trans' hx2⟩
          rw [HC.out, hs.out]
          show Ending.returned (.tuple #[.int .i64 (a : Nat), .bool false]) = Ending.returned (.tuple #[.int .i64 (a : Nat), .bool (decide (s.client = c))])
          rw [show (decide (s.client = c)) = false from Bool.eq_false_iff.2 heq]
      · have hln : l[a]? = none := List.getElem?_eq_none (by omega)
        have HL := hide hln
        clear hln
        go_wp2
        go_ret2
        refine ⟨?_, hx1⟩
        rw [HC.out, HL.out]
        rfl
theorem cmpDn_b (s : Dn) (c : Int) (w : World) (hs : U64 s.seq) (hc : U64 c) :
    Calls Try.prog 34 #[.agg #[.int .u64 s.seq, .int .i64 s.an.err, str s.an.text], .int .u64 c] w fun e w' => RetCmp (decide (s.seq < c)) false w w' e := by
  by_cases h : s.seq < c
  · go_enter Try.func34, Try.ntmps34
    go_wp2
    go_ret
    exact ⟨-1, rfl, hide (by simp; omega), (Ext.rfl' w).alloc' _⟩
  · go_enter Try.func34, Try.ntmps34
    go_wp2
    go_ret
    exact ⟨1, rfl, hide (by simp; omega), (Ext.rfl' w).alloc' _⟩
set_option maxHeartbeats 1600000 in
theorem searchDn_b (x : Value) (l : List Dn) (c : Int) (w : World) (hl : l.length ≤ 100000) (hx : Enc.Sl dnE w noneAt x l) (hc : U64 c) (hm : Mono (fun s : Dn => decide (s.seq < c)) l) :
    Calls Try.prog 33 #[x, .int .u64 c, .func (.func 34) #[] #[]] w fun e w' =>
      RetAt (cntP (fun s : Dn => decide (s.seq < c)) l) ((l[cntP (fun s : Dn => decide (s.seq < c)) l]?).any fun s => false) w w' e := by
  obtain ⟨A, cap, rfl, k1, k2⟩ := hx.form
  have HM := hide hm
  clear hm
  go_enter Try.func33, Try.ntmps33
  go_wp2
  go_loopw [9, 10] (fun i j wr => ∃ a b : Nat, a ≤ b ∧ b ≤ l.length ∧ i = .int .i64 a ∧ j = .int .i64 b ∧ Hid ((∀ m s, m < a → l[m]? = some s → decide (s.seq < c) = true) ∧ (∀ m s, b ≤ m → l[m]? = some s → decide (s.seq < c) = false)) ∧ Ext w wr) (fun i j _ => (intOf j - intOf i).toNat)
  case atStart => exact ⟨0, l.length, Nat.zero_le _, Nat.le_refl _, rfl, rfl, hide ⟨fun m s h => by omega, fun m s h hs => by rw [List.getElem?_eq_none h] at hs; cases hs⟩, Ext.rfl' w⟩
  case round =>
    obtain ⟨a, b, hab, hbl, rfl, rfl, hlo, hx1⟩ := hrel
    by_cases hlt : a < b
    · obtain ⟨h, hh⟩ : ∃ h : Nat, h = (a + b) / 2 := ⟨_, rfl⟩
      have hha : a ≤ h := by omega
      have hhb : h < b := by omega
      have hhe : ((a : Int) + b) / 2 = h := by omega
      clear hh
      obtain ⟨ad, s, rfl, hs, hbk, p0, p1, p2, r1, r2, r3⟩ := dn_at (hx.ext hx1) (k := h) (by omega)
      go_wp2_with fail
      refine (cmpDn_b s c _ r1 hc).mono ?_
      rintro e w2 ⟨r, rfl, hr, hx2⟩
      by_cases hlt2 : decide (s.seq < c) = true
      · have hr2 : r < 0 := hr.out.1.2 hlt2
        go_wp2
        go_roundw
        case rel =>
          refine ⟨h + 1, b, by omega, hbl, by go_num, rfl, hide ⟨fun m t hm ht => ?_, hlo.out.2⟩, hx1.trans' hx2⟩
          exact HM.out m h t s (by omega) ht hs.out hlt2
        case measure => simp [intOf]; omega
      · have hr2 : ¬ r < 0 := fun h => hlt2 (hr.out.1.1 h)
        go_wp2
        go_roundw
        case rel =>
          refine ⟨a, h, by omega, by omega, rfl, rfl, hide ⟨hlo.out.1, fun m t hm ht => ?_⟩, hx1.trans' hx2⟩
          rcases Bool.eq_false_or_eq_true (decide (t.seq < c)) with h1 | h1
          · exact absurd (HM.out h m s t hm hs.out ht h1) hlt2
          · exact h1
        case measure => simp [intOf]; omega
    · obtain rfl : a = b := by omega
      have hcn : cntP (fun s : Dn => decide (s.seq < c)) l = a := cntP_at _ l a hbl hlo.out.1 hlo.out.2
      have HC := hide hcn
      clear hcn
      by_cases hal : a < l.length
      · obtain ⟨ad, s, rfl, hs, hbk, p0, p1, p2, r1, r2, r3⟩ := dn_at (hx.ext hx1) (k := a) hal
        go_wp2_with fail
        refine (cmpDn_b s c _ r1 hc).mono ?_
        rintro e w2 ⟨r, rfl, hr, hx2⟩
        by_cases heq : false = true
        · have hr2 : r = 0 := hr.out.2.2 heq
          subst hr2
          go_wp2
          go_ret2
          refine ⟨?_, hx1.trans' hx2⟩
          rw [HC.out, hs.out]
          show Ending.returned (.tuple #[.int .i64 (a : Nat), .bool true]) = Ending.returned (.tuple #[.int .i64 (a : Nat), .bool (false)])
          rw [show (false) = true from heq]
        · have hr2 : (r == 0) = false := by
            simp only [beq_eq_false_iff_ne, ne_eq]
            intro h; exact heq (hr.out.2.1 h)
          go_wp2
          go_ret2
          refine ⟨?_, hx1.trans' hx2⟩
          rw [HC.out, hs.out]
          show Ending.returned (.tuple #[.int .i64 (a : Nat), .bool false]) = Ending.returned (.tuple #[.int .i64 (a : Nat), .bool (false)])
          rw [show (false) = false from Bool.eq_false_iff.2 heq]
      · have hln : l[a]? = none := List.getElem?_eq_none (by omega)
        have HL := hide hln
        clear hln
        go_wp2
        go_ret2
        refine ⟨?_, hx1⟩
        rw [HC.out, HL.out]
        rfl
end Go.Proofs.Ythlbnajecfjmdaa
