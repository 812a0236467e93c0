/- code, shortcutref10: short names. -/
import Derived.Test.YtniblgcliplbdaaTwin
import Derived.Lib.Bytealg
namespace Go.Proofs.Ytniblgcliplbdaa
set_option linter.unusedVariables false
set_option linter.unusedSimpArgs false
open Go.RowKit
theorem most_b (w : World) : Calls Try.prog 19 #[] w fun e w' => e = .returned (.int .u64 238328) ∧ w = w' := by
  go_enter Try.func19, Try.ntmps19
  go_wp2
  go_loop [1, 2] (fun v i => (v = .int .u64 1 ∧ i = .int .i64 0) ∨ (v = .int .u64 62 ∧ i = .int .i64 1) ∨ (v = .int .u64 3844 ∧ i = .int .i64 2) ∨ (v = .int .u64 238328 ∧ i = .int .i64 3)) (fun _ i => (3 - intOf i).toNat)
  case atStart => exact .inl ⟨rfl, rfl⟩
  case round =>
    rcases hrel with ⟨rfl, rfl⟩ | ⟨rfl, rfl⟩ | ⟨rfl, rfl⟩ | ⟨rfl, rfl⟩
    · go_wp2
      exact ⟨.inr (.inl ⟨rfl, rfl⟩), by simp [intOf]⟩
    · go_wp2
      exact ⟨.inr (.inr (.inl ⟨rfl, rfl⟩)), by simp [intOf]⟩
    · go_wp2
      exact ⟨.inr (.inr (.inr ⟨rfl, rfl⟩)), by simp [intOf]⟩
    · go_wp2
      go_ret
      exact ⟨rfl, rfl⟩
theorem rmost_b (w : World) : Calls Try.prog 38 #[] w fun e w' => e = .returned (.int .u64 238328) ∧ w = w' := by
  go_enter Try.func38, Try.ntmps38
  go_wp2
  go_ret
  exact ⟨rfl, rfl⟩
/-- the bytes that a given name may have -/
abbrev okc (n : Int) : Prop := 97 ≤ n ∧ n ≤ 122 ∨ 48 ≤ n ∧ n ≤ 57 ∨ n = 45
abbrev IsAlias (s : ByteArray) : Prop := ∃ h : 4 ≤ s.size, s.size ≤ 12 ∧ ¬ (s[0].toNat : Int) = 45 ∧ ¬ ((s[s.size - 1]'(by omega)).toNat : Int) = 45 ∧ ∀ i (h : i < s.size), okc (s[i].toNat : Int)
def alias (s : ByteArray) : Bool := decide (IsAlias s)
theorem no_alias (s : ByteArray) (h : ¬ IsAlias s) : Hid (alias s = false) := decide_eq_false h
theorem okc_or (c : Int) : ((97 ≤ c ∧ c ≤ 122) ∨ (48 ≤ c ∧ c ≤ 57) ∨ c = 45) ∨ (c < 45 ∨ (46 ≤ c ∧ c ≤ 47) ∨ (58 ≤ c ∧ c ≤ 96) ∨ 123 ≤ c) := by omega
theorem okc_not (c : Int) (h : c < 45 ∨ (46 ≤ c ∧ c ≤ 47) ∨ (58 ≤ c ∧ c ≤ 96) ∨ 123 ≤ c) : ¬ okc c := by unfold okc; omega
def Upto (s : ByteArray) (k : Nat) : Prop := ∀ j (_ : j < k) (h : j < s.size), okc (s[j].toNat : Int)
theorem Upto.step {s : ByteArray} {k : Nat} (h : Hid (Upto s k)) (hk : k < s.size) (ho : okc (s[k].toNat : Int)) : Hid (Upto s (k + 1)) := by
  unfold Hid
  intro j hj hjs
  by_cases e : j = k
  · subst e; exact ho
  · exact h.out j (by omega) hjs
set_option maxHeartbeats 800000 in
theorem alias_b (s : ByteArray) (w : World) (hs : s.size ≤ 140737488355000) :
    Calls Try.prog 17 #[.string s] w fun e w' => e = .returned (.bool (alias s)) ∧ w = w' := by
  by_cases h4 : s.size < 4
  · have H := no_alias s fun h => by have := h.1; omega
    go_enter Try.func17, Try.ntmps17
    go_wp2
    all_goals go_ret
    all_goals rw [H.out]
    all_goals exact ⟨rfl, rfl⟩
  · by_cases h12 : 12 < s.size
    · have H := no_alias s fun h => by have := h.2.1; omega
      go_enter Try.func17, Try.ntmps17
      go_wp2
      all_goals go_ret
      all_goals rw [H.out]
      all_goals exact ⟨rfl, rfl⟩
    · have e0 : 0 < s.size := by omega
      have e1 : s.size - 1 < s.size := by omega
      by_cases hf : (s[0].toNat : Int) = 45
      · have H := no_alias s fun h => h.2.2.1 hf
        go_enter Try.func17, Try.ntmps17
        go_wp2
        all_goals go_ret
        all_goals rw [H.out]
        all_goals exact ⟨rfl, rfl⟩
      · by_cases hg : (s[s.size - 1].toNat : Int) = 45
        · have H := no_alias s fun h => h.2.2.2.1 hg
          go_enter Try.func17, Try.ntmps17
          go_wp2
          all_goals go_ret
          all_goals rw [H.out]
          all_goals exact ⟨rfl, rfl⟩
        · have HF := hide hf
          have HG := hide hg
          have hf2 : ((s[0].toNat : Int) == 45) = false := by simpa using hf
          have hg2 : ((s[s.size - 1].toNat : Int) == 45) = false := by simpa using hg
          go_enter Try.func17, Try.ntmps17
          go_wp2
          clear hf hg hf2 hg2
          go_loop [28] (fun i => ∃ k : Nat, k ≤ s.size ∧ i = .int .i64 k ∧ Hid (Upto s k)) (fun i => (s.size - intOf i).toNat)
          case atStart => exact ⟨0, Nat.zero_le _, rfl, hide fun j hj => by omega⟩
          case round =>
            obtain ⟨k, hk, rfl, hu⟩ := hrel
            by_cases hlt : k < s.size
            · rcases okc_or (s[k].toNat : Int) with hc | hc
              · have hn := Upto.step hu hlt hc
                rcases hc with hc | hc | hc
                all_goals go_wp2
                all_goals exact ⟨⟨k + 1, by omega, by go_num, hn⟩, by simp [intOf]; omega⟩
              · have H := no_alias s fun h => okc_not _ hc (h.2.2.2.2 k hlt)
                have hne : ((s[k].toNat : Int) == 45) = false := by simp; omega
                rcases hc with hc | ⟨hc, hc'⟩ | ⟨hc, hc'⟩ | hc
                all_goals go_wp2
                all_goals first | (go_ret; rw [H.out]; exact ⟨rfl, rfl⟩) | (exfalso; rename_i hz; simp only [Bool.not_eq_false', decide_eq_true_eq] at hz; omega)
            · have H : Hid (alias s = true) := decide_eq_true ⟨by omega, by omega, HF.out, HG.out, fun i h => hu.out i (by omega) h⟩
              go_wp2
              go_ret
              rw [H.out]
              exact ⟨rfl, rfl⟩
set_option maxHeartbeats 800000 in
theorem ralias_b (s : ByteArray) (w : World) (hs : s.size ≤ 140737488355000) :
    Calls Try.prog 18 #[.string s] w fun e w' => e = .returned (.bool (alias s)) ∧ w = w' := by
  by_cases h4 : s.size < 4
  · have H := no_alias s fun h => by have := h.1; omega
    go_enter Try.func18, Try.ntmps18
    go_wp2
    all_goals go_ret
    all_goals rw [H.out]
    all_goals exact ⟨rfl, rfl⟩
  · by_cases h12 : 12 < s.size
    · have H := no_alias s fun h => by have := h.2.1; omega
      go_enter Try.func18, Try.ntmps18
      go_wp2
      all_goals go_ret
      all_goals rw [H.out]
      all_goals exact ⟨rfl, rfl⟩
    · have e0 : 0 < s.size := by omega
      have e1 : s.size - 1 < s.size := by omega
      by_cases hf : (s[0].toNat : Int) = 45
      · have H := no_alias s fun h => h.2.2.1 hf
        go_enter Try.func18, Try.ntmps18
        go_wp2
        all_goals go_ret
        all_goals rw [H.out]
        all_goals exact ⟨rfl, rfl⟩
      · by_cases hg : (s[s.size - 1].toNat : Int) = 45
        · have H := no_alias s fun h => h.2.2.2.1 hg
          go_enter Try.func18, Try.ntmps18
          go_wp2
          all_goals go_ret
          all_goals rw [H.out]
          all_goals exact ⟨rfl, rfl⟩
        · have HF := hide hf
          have HG := hide hg
          have hf2 : ((s[0].toNat : Int) == 45) = false := by simpa using hf
          have hg2 : ((s[s.size - 1].toNat : Int) == 45) = false := by simpa using hg
          go_enter Try.func18, Try.ntmps18
          go_wp2
          clear hf hg hf2 hg2
          go_loop [3] (fun i => ∃ k : Nat, k ≤ s.size ∧ i = .int .i64 k ∧ Hid (Upto s k)) (fun i => (s.size - intOf i).toNat)
          case atStart => exact ⟨0, Nat.zero_le _, rfl, hide fun j hj => by omega⟩
          case round =>
            obtain ⟨k, hk, rfl, hu⟩ := hrel
            by_cases hlt : k < s.size
            · rcases okc_or (s[k].toNat : Int) with hc | hc
              · have hn := Upto.step hu hlt hc
                rcases hc with hc | hc | hc
                all_goals go_wp2
                all_goals exact ⟨⟨k + 1, by omega, by go_num, hn⟩, by simp [intOf]; omega⟩
              · have H := no_alias s fun h => okc_not _ hc (h.2.2.2.2 k hlt)
                have hne : ((s[k].toNat : Int) == 45) = false := by simp; omega
                rcases hc with hc | ⟨hc, hc'⟩ | ⟨hc, hc'⟩ | hc
                all_goals go_wp2
                all_goals first | (go_ret; rw [H.out]; exact ⟨rfl, rfl⟩) | (exfalso; rename_i hz; simp only [Bool.not_eq_false', decide_eq_true_eq] at hz; omega)
            · have H : Hid (alias s = true) := decide_eq_true ⟨by omega, by omega, HF.out, HG.out, fun i h => hu.out i (by omega) h⟩
              go_wp2
              go_ret
              rw [H.out]
              exact ⟨rfl, rfl⟩
end Go.Proofs.Ytniblgcliplbdaa
