/- CodeForms: what the law itself does. -/
import Derived.Test.YtniblgcliplbdaaCodeBack
namespace Go.Proofs.Ytniblgcliplbdaa
set_option linter.unusedVariables false
set_option linter.unusedSimpArgs false
open Go.RowKit
theorem alias_t (s : ByteArray) (w : World) (hs : s.size ≤ 140737488355000) (h : alias s = true) :
    Calls Try.prog 17 #[.string s] w fun e w' => e = .returned (.bool true) ∧ w = w' := by
  have := alias_b s w hs
  rwa [h] at this
theorem alias_f (s : ByteArray) (w : World) (hs : s.size ≤ 140737488355000) (h : alias s = false) :
    Calls Try.prog 17 #[.string s] w fun e w' => e = .returned (.bool false) ∧ w = w' := by
  have := alias_b s w hs
  rwa [h] at this
theorem num_no (s : ByteArray) (w : World) (hs : s.size ≤ 140737488355000) (h : onum s.data.toList = (0, 9)) :
    Calls Try.prog 15 #[.string s] w fun e w' => e = .returned (.tuple #[.int .u64 0, .int .i64 9]) ∧ w = w' := by
  have := num_b s w hs
  rwa [h] at this
theorem code_at (d : Int) (m : Bytes) (k : Int) (w : World) (hd : 0 ≤ d ∧ d ≤ 18446744073709551615) (h : ocode d.toNat = (m, k)) :
    Calls Try.prog 13 #[.int .u64 d] w fun e w' => e = .returned (.tuple #[str m, .int .i64 k]) ∧ Ext w w' := by
  refine (code_b d w hd).mono ?_
  rintro e w' ⟨m', k', h', rfl, hx⟩
  have h9 := h'.out.trans h
  simp only [Prod.mk.injEq] at h9
  obtain ⟨rfl, rfl⟩ := h9
  exact ⟨rfl, hx⟩
set_option maxHeartbeats 1600000 in
theorem codeForms_walk (w : World) : Calls Try.prog 5 #[] w fun e w' => e = .returned (.bool true) ∧ Ext w w' := by
  go_enter Try.func5, Try.ntmps5
  go_wp2_with (go_at_call 12; refine (begun16_b _).mono ?_; rintro e w1 ⟨rfl, hx1⟩)
  refine (code_at 0 [48, 48, 48] 0 _ (by omega) (by decide +kernel)).mono ?_
  rintro e w2 ⟨rfl, hx2⟩
  go_wp2_with fail
  refine (most_b _).mono ?_
  rintro e w3 ⟨rfl, rfl⟩
  go_wp2_with fail
  refine (code_at 238327 [122, 122, 122] 0 _ (by omega) (by decide +kernel)).mono ?_
  rintro e w3 ⟨rfl, hx3⟩
  go_wp2_with fail
  refine (most_b _).mono ?_
  rintro e w4 ⟨rfl, rfl⟩
  go_wp2_with fail
  refine (code_at 238328 [] 12 _ (by omega) (by decide +kernel)).mono ?_
  rintro e w4 ⟨rfl, hx4⟩
  go_wp2_with fail
  refine (code_at 18446744073709551615 [] 12 _ (by omega) (by decide +kernel)).mono ?_
  rintro e w5 ⟨rfl, hx5⟩
  go_wp2
  go_loop [11] (fun i => ∃ k : Nat, (k : Int) ≤ 5 ∧ i = .int .i64 k) (fun i => (5 - intOf i).toNat)
  case atStart => exact ⟨0, by decide, rfl⟩
  case round =>
    obtain ⟨k, hk, rfl⟩ := hrel
    have hc : k = 0 ∨ k = 1 ∨ k = 2 ∨ k = 3 ∨ k = 4 ∨ k = 5 := by omega
    clear hk
    rcases hc with rfl | rfl | rfl | rfl | rfl | rfl
    iterate 5
      · go_wp2_with (go_at_call 17; refine (alias_t _ _ (by decide) (by decide +kernel)).mono ?_; rintro e w6 ⟨rfl, rfl⟩)
        exact ⟨⟨_, by decide, rfl⟩, by simp [intOf]⟩
    · go_wp2
      go_loop [12] (fun i => ∃ k : Nat, (k : Int) ≤ 10 ∧ i = .int .i64 k) (fun i => (10 - intOf i).toNat)
      case atStart => exact ⟨0, by decide, rfl⟩
      case round =>
        obtain ⟨k, hk, rfl⟩ := hrel
        have hc : k = 0 ∨ k = 1 ∨ k = 2 ∨ k = 3 ∨ k = 4 ∨ k = 5 ∨ k = 6 ∨ k = 7 ∨ k = 8 ∨ k = 9 ∨ k = 10 := by omega
        clear hk
        rcases hc with rfl | rfl | rfl | rfl | rfl | rfl | rfl | rfl | rfl | rfl | rfl
        iterate 10
          · go_wp2_with (go_at_call 17; refine (alias_f _ _ (by decide) (by decide +kernel)).mono ?_; rintro e w6 ⟨rfl, rfl⟩)
            exact ⟨⟨_, by decide, rfl⟩, by simp [intOf]⟩
        · go_wp2
          go_loop [14] (fun i => ∃ k : Nat, (k : Int) ≤ 6 ∧ i = .int .i64 k) (fun i => (6 - intOf i).toNat)
          case atStart => exact ⟨0, by decide, rfl⟩
          case round =>
            obtain ⟨k, hk, rfl⟩ := hrel
            have hc : k = 0 ∨ k = 1 ∨ k = 2 ∨ k = 3 ∨ k = 4 ∨ k = 5 ∨ k = 6 := by omega
            clear hk
            rcases hc with rfl | rfl | rfl | rfl | rfl | rfl | rfl
            iterate 6
              · go_wp2_with (go_at_call 15; refine (num_no _ _ (by decide) (by decide +kernel)).mono ?_; rintro e w6 ⟨rfl, rfl⟩)
                exact ⟨⟨_, by decide, rfl⟩, by simp [intOf]⟩
            · go_wp2
              go_ret
              exact ⟨rfl, ((((((hx1.trans' hx2).trans' hx3).trans' hx4).trans' hx5).alloc' _).alloc' _).alloc' _⟩
end Go.Proofs.Ytniblgcliplbdaa
