/- A part of the proof of 'StateBytes'. -/
import Derived.Test.YtamimdlaclglkaaGreatB30
import Derived.Test.YtamimdlaclglkaaGreatB1
namespace Go.Proofs.YtamimdlaclglkaaGreat
set_option linter.unusedVariables false
set_option linter.unusedSimpArgs false
set_option linter.unnecessarySimpa false
set_option maxRecDepth 100000
open Go.RowKit
def SeL (x : Se) : Prop := x.done.length ≤ 8 ∧ 0 ≤ x.client ∧ x.client ≤ 255 ∧ ∀ (j : Nat) (d : Dn), x.done[j]? = some d → 0 ≤ d.an.err ∧ d.an.err ≤ 16
def LightS (s : St) : Prop := s.links.length ≤ 60 ∧ s.sess.length ≤ 8 ∧ Ordd s ∧ ∀ (j : Nat) (x : Se), s.sess[j]? = some x → SeL x
def RetLt (s : St) (w w' : World) (e : Ending) : Prop := ∃ b, e = .returned (.bool b) ∧ Ext w w' ∧ (b = true → LightS s)
theorem RetLt.no {s : St} {w w' : World} (hx : Ext w w') : RetLt s w w' (.returned (.bool false)) := ⟨false, rfl, hx, by simp⟩
set_option maxHeartbeats 6400000 in
theorem light_b (s : St) (cs : List Value) (w : World) (hs : stE.rep w noneAt cs s) :
    Calls Tryz.prog 15 #[.agg cs.toArray] w fun e w' => RetLt s w w' e := by
  obtain ⟨vl, vs, rfl, s1, s2, s3, s4⟩ := st_rep.1 hs
  obtain ⟨Al, cl, rfl, q1, q2⟩ := s3.form
  obtain ⟨As, cs', rfl, q3, q4⟩ := s4.form
  have hll : s.links.length ≤ 9223372036854775807 := Nat.le_trans q1 q2
  have hl : s.sess.length ≤ 9223372036854775807 := Nat.le_trans q3 q4
  clear q1 q2 q3 q4 s3
  have hB := Blk.new w 28 #[.int .u64 s.now, .int .u64 s.count, .slice Al s.links.length cl, .slice As s.sess.length cs']
  have hx0 : Ext w (w.alloc (.cells #[.int .u64 s.now, .int .u64 s.count, .slice Al s.links.length cl, .slice As s.sess.length cs'] 28)) := (Ext.rfl' w).alloc' _
  by_cases h60 : (60 : Int) < s.links.length
  · go_enter Tryz.func15, Tryz.ntmps15
    go_wp2
    go_ret
    exact RetLt.no hx0
  · by_cases h8 : (8 : Int) < s.sess.length
    · go_enter Tryz.func15, Tryz.ntmps15
      go_wp2
      go_ret
      exact RetLt.no hx0
    · have HO := hide (ordered_b s _ _ (stE.ext hs hx0))
      clear hs
      obtain ⟨g, hg⟩ : ∃ g, w.heap.size = g := ⟨_, rfl⟩
      go_enter Tryz.func15, Tryz.ntmps15
      go_wp2_with fail
      refine HO.out.mono ?_
      rintro e W1 ⟨b, rfl, hx1, hb⟩
      rw [hg] at hB
      have hB1 := hB.ext hx1
      have hxx1 := hx0.trans' hx1
      clear hB hx0 HO
      cases b with
      | false =>
        go_wp2
        go_ret
        exact RetLt.no hxx1
      | true =>
        have HOR := hide (hb.1 rfl)
        clear hb
        generalize w.alloc (.cells #[.int .u64 s.now, .int .u64 s.count, .slice Al s.links.length cl, .slice As s.sess.length cs'] 28) = w1 at *
        go_wp2_with fail
        clear hx1
        go_loopw [3] (fun i w2 => ∃ k : Nat, (k : Int) ≤ s.sess.length ∧ i = .int .i64 k ∧ Hid (∀ (j : Nat) (x : Se), j < k → s.sess[j]? = some x → SeL x) ∧ Ext W1 w2) (fun i _ => (s.sess.length - intOf i).toNat)
        case atStart => exact ⟨0, by omega, rfl, hide (fun j x h => by omega), Ext.rfl' _⟩
        case round =>
          obtain ⟨k, hk, rfl, hd, hxx⟩ := hrel
          have hBr := hB1.ext hxx
          have hxr := hxx1.trans' hxx
          have b3 := (hBr.cell 3).trans rfl
          by_cases hlt : (k : Int) < s.sess.length
          · obtain ⟨ad, y, v, rfl, hyk, hbk, p0, p1, p2, p3, p4, p5⟩ := se_at (s4.ext hxr) (k := k) (by omega)
            obtain ⟨Ad, cd, rfl, hdy1, hdy2⟩ := p5.form
            have hdy : y.done.length ≤ 9223372036854775807 := Nat.le_trans hdy1 hdy2
            clear hdy1 hdy2
            by_cases h1 : (8 : Int) < y.done.length
            · go_wp2
              go_ret
              exact RetLt.no hxr
            · by_cases h2 : y.client < 0
              · go_wp2
                go_ret
                exact RetLt.no hxr
              · by_cases h3 : 255 < y.client
                · go_wp2
                  go_ret
                  exact RetLt.no hxr
                · go_wp2_with fail
                  generalize wr = wC at *
                  go_loopw [4] (fun i w3 => ∃ m : Nat, (m : Int) ≤ y.done.length ∧ i = .int .i64 m ∧ Hid (∀ (j : Nat) (d : Dn), j < m → y.done[j]? = some d → 0 ≤ d.an.err ∧ d.an.err ≤ 16) ∧ Ext wC w3) (fun i _ => (y.done.length - intOf i).toNat)
                  case atStart => exact ⟨0, by omega, rfl, hide (fun j x h => by omega), Ext.rfl' _⟩
                  case round =>
                    obtain ⟨m, hm, rfl, hq, hx3⟩ := hrel
                    have b3' := ((hBr.ext hx3).cell 3).trans rfl
                    have p2' := (hx3.cell (p := ⟨(ad.add (k * 3)).block, (ad.add (k * 3)).off + 2, none⟩) (by show (ad.add (k * 3)).block < _; rw [block_of_add]; exact hbk)).trans p2
                    have hx4 := hxr.trans' hx3
                    by_cases hlt3 : (m : Int) < y.done.length
                    · obtain ⟨ae, d, rfl, hdk, hbe, -, e1, -⟩ := dn_at (p5.ext hx3) (k := m) (by omega)
                      by_cases h4 : d.an.err < 0
                      · go_wp2
                        go_ret
                        exact RetLt.no hx4
                      · by_cases h5 : 16 < d.an.err
                        · go_wp2
                          go_ret
                          exact RetLt.no hx4
                        · have HQ : Hid (∀ (j : Nat) (d : Dn), j < m + 1 → y.done[j]? = some d → 0 ≤ d.an.err ∧ d.an.err ≤ 16) := hide fun j d' hj hd' => by
                            by_cases hjm : j = m
                            · subst hjm
                              rw [hdk.out] at hd'
                              cases hd'
                              omega
                            · exact hq.out j d' (by omega) hd'
                          go_wp2
                          go_roundw
                          case rel => exact ⟨m + 1, by omega, by go_num, HQ, hx3⟩
                          case measure => simp [intOf]; omega
                    · have HD2 : Hid (∀ (j : Nat) (x : Se), j < k + 1 → s.sess[j]? = some x → SeL x) := hide fun j x hj hx => by
                        by_cases hjk : j = k
                        · subst hjk
                          rw [hyk.out] at hx
                          cases hx
                          exact ⟨by omega, by omega, by omega, fun j d hj => hq.out j d (by have := (List.getElem?_eq_some_iff.1 hj).1; omega) hj⟩
                        · exact hd.out j x (by omega) hx
                      go_wp2
                      go_roundw
                      case rel => exact ⟨k + 1, by omega, by go_num, HD2, hxx.trans' hx3⟩
                      case measure => simp [intOf]; omega
          · have HD2 : Hid (∀ (j : Nat) (x : Se), s.sess[j]? = some x → SeL x) := hide fun j x hx => hd.out j x (by have := (List.getElem?_eq_some_iff.1 hx).1; omega) hx
            go_wp2_with fail
            go_ret
            exact ⟨true, rfl, hxr, fun _ => ⟨by omega, by omega, HOR.out, HD2.out⟩⟩
end Go.Proofs.YtamimdlaclglkaaGreat
namespace Go.Proofs.YtamimdlaclglkaaGreat
set_option linter.unusedVariables false
set_option linter.unusedSimpArgs false
set_option linter.unnecessarySimpa false
set_option maxRecDepth 100000
open Go.RowKit
/-- the answer is whether p -/
def RetIs (p : Prop) (w w' : World) (e : Ending) : Prop := ∃ b : Bool, e = .returned (.bool b) ∧ Ext w w' ∧ Hid (b = true ↔ p)
theorem RetIs.yes {p : Prop} {w w' : World} (hx : Ext w w') (h : p) : RetIs p w w' (.returned (.bool true)) := ⟨true, rfl, hx, hide (by simp [h])⟩
theorem RetIs.no {p : Prop} {w w' : World} (hx : Ext w w') (h : ¬ p) : RetIs p w w' (.returned (.bool false)) := ⟨false, rfl, hx, hide (by simp [h])⟩
theorem RetIs.to {p q : Prop} {w w' : World} {e : Ending} (h : RetIs p w w' e) (hi : p ↔ q) : RetIs q w w' e := by
  obtain ⟨b, h1, h2, h3⟩ := h
  exact ⟨b, h1, h2, hide (h3.out.trans hi)⟩
end Go.Proofs.YtamimdlaclglkaaGreat
