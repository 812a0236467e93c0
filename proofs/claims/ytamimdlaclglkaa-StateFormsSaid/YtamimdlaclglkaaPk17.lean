import Derived.Test.YtamimdlaclglkaaPk5
import Derived.Test.YtamimdlaclglkaaPk8
import Derived.Laws.CopyOwn
import Derived.Laws.MakeOwn
import Derived.Lib.Bytealg
/- shortcutlaw0: twins of bytes, with spare room behind them. -/
namespace Go.Proofs.Ytamimdlaclglkaa
set_option linter.unusedVariables false
set_option linter.unusedSimpArgs false
set_option linter.unnecessarySimpa false
set_option maxRecDepth 100000
open Go.RowKit
/-- what a twin's row holds -/
def twin (b : Bytes) : Bytes := b ++ [229, 229, 229]
theorem twin_length (b : Bytes) : (twin b).length = b.length + 3 := by simp [twin]
def IsTwin (w : World) (g : Nat) (b : Bytes) : Prop := Blk w g 5 (bv (twin b)).toArray
theorem IsTwin.ext {w w' : World} {g : Nat} {b : Bytes} (h : IsTwin w g b) (hx : Ext w w') : IsTwin w' g b := Blk.ext h hx
theorem IsTwin.bs {w : World} {g : Nat} {b : Bytes} (h : IsTwin w g b) (hl : b.length ≤ 140737488355000) : Bs w (.slice (some ⟨g, 0, none⟩) b.length (b.length + 3)) b := by
  refine Bs.mk' rfl (by omega) (by simp [maxLen]; omega) ⟨by simp, fun hn => ⟨_, rfl, h.lt, fun j u hu => ?_⟩⟩
  have hadd : (⟨g, 0, none⟩ : Addr).add j = ⟨g, j, none⟩ := by unfold Addr.add; split <;> simp_all
  have hj : j < (bv b).length := by
    rcases Nat.lt_or_ge j (bv b).length with h1 | h1
    · exact h1
    · rw [List.getElem?_eq_none h1] at hu; cases hu
  rw [hadd, h.cell]
  simp only [List.getElem?_toArray, twin, bv_append]
  rw [List.getElem?_append_left hj]
  exact hu
theorem make_u8 (n : Nat) (h : n ≤ 140737488355328) (l : Int) (hl : l = n) : ∀ W : World, (Instr.makeSlice 30 (.int .i64 l) (.int .i64 l)).run Try.prog W =
    .ok (.slice (some ⟨W.heap.size, 0, none⟩) n n) (W.alloc (.cells (List.replicate n (.int .u8 0)).toArray 5)) := by
  obtain ⟨i0, hi, hz0, hz1, hz2⟩ := info_parts ti5
  subst hl
  intro W
  rw [run_make (P := Try.prog) W 30 5 i0 (.int .u8 0) Try.underlying30 hi hz0 .i64 .i64 n n (by omega) (by omega) (by rw [hz2]; omega) (by omega)]
  have e : madeCells (Value.int .u8 0).cells ((n : Int).toNat * i0.size) = (List.replicate n (Value.int .u8 0)).toArray := by
    rw [hz1]
    apply Array.ext
    · simp [madeCells]
    · intro j h1 h2
      simp [madeCells, Value.cells, Nat.mod_one]
  rw [e]
  simp


































































































end Go.Proofs.Ytamimdlaclglkaa

/- code, shortcutref10: short names. -/
namespace Go.Proofs.Ytamimdlaclglkaa
set_option linter.unusedVariables false
set_option linter.unusedSimpArgs false
set_option linter.unnecessarySimpa false
set_option maxRecDepth 100000
open Go.RowKit
theorem most_b (w : World) : Calls Try.prog 89 #[] w fun e w' => e = .returned (.int .u64 238328) ∧ w = w' := by
  go_enter Try.func89, Try.ntmps89
  go_wp2
  go_loop [1, 2] (fun v i => (v = .int .u64 1 ∧ i = .int .i64 0) ∨ (v = .int .u64 62 ∧ i = .int .i64 1) ∨ (v = .int .u64 3844 ∧ i = .int .i64 2) ∨ (v = .int .u64 238328 ∧ i = .int .i64 3)) (fun _ i => (3 - intOf i).toNat)
  case atStart => exact .inl ⟨rfl, rfl⟩
  case round =>
    rcases hrel with ⟨rfl, rfl⟩ | ⟨rfl, rfl⟩ | ⟨rfl, rfl⟩ | ⟨rfl, rfl⟩
    · go_wp2
      exact ⟨.inr (.inl ⟨rfl, rfl⟩), by simp [intOf]⟩
    · go_wp2
      exact ⟨.inr (.inr (.inl ⟨rfl, rfl⟩)), by simp [intOf]⟩
    · go_wp2
      exact ⟨.inr (.inr (.inr ⟨rfl, rfl⟩)), by simp [intOf]⟩
    · go_wp2
      go_ret
      exact ⟨rfl, rfl⟩





/-- the bytes that a given name may have -/
abbrev okc (n : Int) : Prop := 97 ≤ n ∧ n ≤ 122 ∨ 48 ≤ n ∧ n ≤ 57 ∨ n = 45
abbrev IsAlias (s : ByteArray) : Prop := ∃ h : 4 ≤ s.size, s.size ≤ 12 ∧ ¬ (s[0].toNat : Int) = 45 ∧ ¬ ((s[s.size - 1]'(by omega)).toNat : Int) = 45 ∧ ∀ i (h : i < s.size), okc (s[i].toNat : Int)
def alias (s : ByteArray) : Bool := decide (IsAlias s)
theorem no_alias (s : ByteArray) (h : ¬ IsAlias s) : Hid (alias s = false) := decide_eq_false h
theorem okc_or (c : Int) : ((97 ≤ c ∧ c ≤ 122) ∨ (48 ≤ c ∧ c ≤ 57) ∨ c = 45) ∨ (c < 45 ∨ (46 ≤ c ∧ c ≤ 47) ∨ (58 ≤ c ∧ c ≤ 96) ∨ 123 ≤ c) := by omega
theorem okc_not (c : Int) (h : c < 45 ∨ (46 ≤ c ∧ c ≤ 47) ∨ (58 ≤ c ∧ c ≤ 96) ∨ 123 ≤ c) : ¬ okc c := by unfold okc; omega
def Upto (s : ByteArray) (k : Nat) : Prop := ∀ j (_ : j < k) (h : j < s.size), okc (s[j].toNat : Int)
theorem Upto.step {s : ByteArray} {k : Nat} (h : Hid (Upto s k)) (hk : k < s.size) (ho : okc (s[k].toNat : Int)) : Hid (Upto s (k + 1)) := by
  unfold Hid
  intro j hj hjs
  by_cases e : j = k
  · subst e; exact ho
  · exact h.out j (by omega) hjs
set_option maxHeartbeats 800000 in
theorem alias_b (s : ByteArray) (w : World) (hs : s.size ≤ 140737488355000) :
    Calls Try.prog 80 #[.string s] w fun e w' => e = .returned (.bool (alias s)) ∧ w = w' := by
  by_cases h4 : s.size < 4
  · have H := no_alias s fun h => by have := h.1; omega
    go_enter Try.func80, Try.ntmps80
    go_wp2
    all_goals go_ret
    all_goals rw [H.out]
    all_goals exact ⟨rfl, rfl⟩
  · by_cases h12 : 12 < s.size
    · have H := no_alias s fun h => by have := h.2.1; omega
      go_enter Try.func80, Try.ntmps80
      go_wp2
      all_goals go_ret
      all_goals rw [H.out]
      all_goals exact ⟨rfl, rfl⟩
    · have e0 : 0 < s.size := by omega
      have e1 : s.size - 1 < s.size := by omega
      by_cases hf : (s[0].toNat : Int) = 45
      · have H := no_alias s fun h => h.2.2.1 hf
        go_enter Try.func80, Try.ntmps80
        go_wp2
        all_goals go_ret
        all_goals rw [H.out]
        all_goals exact ⟨rfl, rfl⟩
      · by_cases hg : (s[s.size - 1].toNat : Int) = 45
        · have H := no_alias s fun h => h.2.2.2.1 hg
          go_enter Try.func80, Try.ntmps80
          go_wp2
          all_goals go_ret
          all_goals rw [H.out]
          all_goals exact ⟨rfl, rfl⟩
        · have HF := hide hf
          have HG := hide hg
          have hf2 : ((s[0].toNat : Int) == 45) = false := by simpa using hf
          have hg2 : ((s[s.size - 1].toNat : Int) == 45) = false := by simpa using hg
          go_enter Try.func80, Try.ntmps80
          go_wp2
          clear hf hg hf2 hg2
          go_loop [28] (fun i => ∃ k : Nat, k ≤ s.size ∧ i = .int .i64 k ∧ Hid (Upto s k)) (fun i => (s.size - intOf i).toNat)
          case atStart => exact ⟨0, Nat.zero_le _, rfl, hide fun j hj => by omega⟩
          case round =>
            obtain ⟨k, hk, rfl, hu⟩ := hrel
            by_cases hlt : k < s.size
            · rcases okc_or (s[k].toNat : Int) with hc | hc
              · have hn := Upto.step hu hlt hc
                rcases hc with hc | hc | hc
                all_goals go_wp2
                all_goals exact ⟨⟨k + 1, by omega, by go_num, hn⟩, by simp [intOf]; omega⟩
              · have H := no_alias s fun h => okc_not _ hc (h.2.2.2.2 k hlt)
                have hne : ((s[k].toNat : Int) == 45) = false := by simp; omega
                rcases hc with hc | ⟨hc, hc'⟩ | ⟨hc, hc'⟩ | hc
                all_goals go_wp2
                all_goals first | (go_ret; rw [H.out]; exact ⟨rfl, rfl⟩) | (exfalso; rename_i hz; simp only [Bool.not_eq_false', decide_eq_true_eq] at hz; omega)
            · have H : Hid (alias s = true) := decide_eq_true ⟨by omega, by omega, HF.out, HG.out, fun i h => hu.out i (by omega) h⟩
              go_wp2
              go_ret
              rw [H.out]
              exact ⟨rfl, rfl⟩




























































end Go.Proofs.Ytamimdlaclglkaa

