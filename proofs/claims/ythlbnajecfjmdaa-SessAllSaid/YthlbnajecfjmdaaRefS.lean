/- shortcutref17's sessions. -/
import Derived.Test.YthlbnajecfjmdaaSess9
namespace Go.Proofs.Ythlbnajecfjmdaa
set_option linter.unusedVariables false
set_option linter.unusedSimpArgs false
set_option linter.unnecessarySimpa false
set_option maxRecDepth 100000
open Go.RowKit
theorem rstale_b (q h : Int) (w : World) (hq : U64 q) (hh : U64 h) : Calls Try.prog 29 #[.int .u64 q, .int .u64 h] w fun e w' => e = .returned (.bool (stale q h)) ∧ w = w' := by
  by_cases h1 : 4 ≤ h
  · by_cases h2 : q ≤ h - 4
    · have HS : Hid (stale q h = true) := by unfold Hid stale; simp [h1, h2]
      rw [HS.out]
      go_enter Try.func29, Try.ntmps29
      go_wp2
      go_ret
      exact ⟨rfl, rfl⟩
    · have HS : Hid (stale q h = false) := by unfold Hid stale; simp [h1]; omega
      rw [HS.out]
      go_enter Try.func29, Try.ntmps29
      go_wp2
      go_ret
      exact ⟨rfl, rfl⟩
  · have HS : Hid (stale q h = false) := by unfold Hid stale; simp [h1]
    rw [HS.out]
    go_enter Try.func29, Try.ntmps29
    go_wp2
    go_ret
    exact ⟨rfl, rfl⟩
theorem rfails_b (k : Int) (w : World) : Calls Try.prog 27 #[.int .i64 k] w fun e w' => e = .returned (.agg #[.int .i64 k, str []]) ∧ Ext w w' := by
  go_enter Try.func27, Try.ntmps27
  go_wp2
  refine bodyPost_ret (results_cell_row rfl _ _ w.heap.size 31 #[.int .i64 k, str []] (0, 0) _ rfl (Blk.new w _ _) Try.underlying31 rfl (by kernel_rfl)) rfl ?_
  exact ⟨rfl, (Ext.rfl' w).alloc' _⟩
theorem cntP_first {α : Type} (p : α → Bool) : ∀ (l : List α) (k : Nat), k ≤ l.length → (∀ (j : Nat) (x : α), j < k → l[j]? = some x → p x = true) → (∀ (x : α), l[k]? = some x → p x = false) → cntP p l = k
  | [], k, hk, _, _ => by simp [cntP] at *; omega
  | a :: l, 0, _, _, h => by simp [cntP, h a rfl]
  | a :: l, k + 1, hk, h1, h2 => by
    have ih := cntP_first p l k (by simpa using hk) (fun j x hj hx => h1 (j + 1) x (by omega) (by simpa using hx)) (fun x hx => h2 x (by simpa using hx))
    unfold cntP at *
    rw [List.takeWhile_cons, if_pos (h1 0 a (by omega) rfl)]
    simp [ih]

set_option maxHeartbeats 3200000 in
theorem rsession_b (s : St) (cs : List Value) (c : Int) (w : World) (hs : stE.rep w noneAt cs s) (hc : I64 c) :
    Calls Try.prog 28 #[.agg cs.toArray, .int .i64 c] w fun e w' => RetAt (sat s.sess c).1 (sat s.sess c).2 w w' e := by
  obtain ⟨vl, vs, rfl, s1, s2, s3, s4⟩ := st_rep.1 hs
  obtain ⟨As, cs', rfl, q3, q4⟩ := s4.form
  have hl : s.sess.length ≤ 9223372036854775807 := Nat.le_trans q3 q4
  clear q3 q4 hs
  have hB := Blk.new w 26 #[.int .u64 s.now, .int .u64 s.count, vl, .slice As s.sess.length cs']
  have hx0 : Ext w (w.alloc (.cells #[.int .u64 s.now, .int .u64 s.count, vl, .slice As s.sess.length cs'] 26)) := (Ext.rfl' w).alloc' _
  obtain ⟨g, hg⟩ : ∃ g, w.heap.size = g := ⟨_, rfl⟩
  rw [hg] at hB
  go_enter Try.func28, Try.ntmps28
  go_wp2_with fail
  generalize w.alloc (.cells #[.int .u64 s.now, .int .u64 s.count, vl, .slice As s.sess.length cs'] 26) = w1 at *
  go_loopw [6] (fun i wr => ∃ k : Nat, (k : Int) ≤ s.sess.length ∧ i = .int .i64 k ∧ Hid (∀ (j : Nat) (x : Se), j < k → s.sess[j]? = some x → x.client < c) ∧ Ext w1 wr) (fun i _ => (s.sess.length - intOf i).toNat)
  case atStart => exact ⟨0, by omega, rfl, hide (fun j x h => by omega), Ext.rfl' _⟩
  case round =>
    obtain ⟨k, hk, rfl, hd, hx⟩ := hrel
    have b3 := ((hB.ext hx).cell 3).trans rfl
    by_cases hlt : (k : Int) < s.sess.length
    · obtain ⟨ad, y, v, rfl, hyk, hbk, p0, -⟩ := se_at (s4.ext (hx0.trans' hx)) (k := k) (by omega)
      by_cases hc1 : y.client < c
      · have HD2 : Hid (∀ (j : Nat) (x : Se), j < k + 1 → s.sess[j]? = some x → x.client < c) := hide fun j x hj hx => by
          by_cases hjk : j = k
          · subst hjk
            rw [hyk.out] at hx
            cases hx
            exact hc1
          · exact hd.out j x (by omega) hx
        go_wp2
        go_roundw
        case rel => exact ⟨k + 1, by omega, by go_num, HD2, hx⟩
        case measure => simp [intOf]; omega
      · by_cases hc2 : y.client = c
        · have HS : Hid (sat s.sess c = (k, true)) := by
            have h1 := cntP_first (ltC c) s.sess k (by omega) (fun j x hj hx => by simpa using hd.out j x hj hx) (fun x hx => by rw [hyk.out] at hx; cases hx; simpa using hc1)
            unfold Hid sat
            rw [h1, hyk.out]
            simp [hc2]
          have hc3 : (y.client == c) = true := by simpa using hc2
          go_wp2_with fail
          go_region
          go_wp2
          go_ret2
          rw [HS.out]
          exact ⟨rfl, (hx0.trans' hx).drew'⟩
        · have HS : Hid (sat s.sess c = (k, false)) := by
            have h1 := cntP_first (ltC c) s.sess k (by omega) (fun j x hj hx => by simpa using hd.out j x hj hx) (fun x hx => by rw [hyk.out] at hx; cases hx; simpa using hc1)
            unfold Hid sat
            rw [h1, hyk.out]
            simp [hc2]
          have hc3 : (y.client == c) = false := by simpa using hc2
          go_wp2_with fail
          go_region
          go_wp2
          go_ret2
          rw [HS.out]
          exact ⟨rfl, (hx0.trans' hx).drew'⟩
    · obtain rfl : k = s.sess.length := by omega
      have HS : Hid (sat s.sess c = (s.sess.length, false)) := by
        have h1 := cntP_first (ltC c) s.sess s.sess.length (by omega) (fun j x hj hx => by simpa using hd.out j x hj hx) (fun x hx => by simp at hx)
        unfold Hid sat
        rw [h1]
        simp
      go_wp2_with fail
      go_region
      go_wp2
      go_ret2
      rw [HS.out]
      exact ⟨rfl, (hx0.trans' hx).drew'⟩
end Go.Proofs.Ythlbnajecfjmdaa
