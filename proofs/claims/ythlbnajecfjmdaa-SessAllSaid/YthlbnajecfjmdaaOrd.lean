/- shortcutref17.Ordered. -/
import Derived.Test.YthlbnajecfjmdaaSess2
import Derived.Laws.Cover1
import Derived.RegionTactic
import Derived.ChangeAlike
namespace Go.Proofs.Ythlbnajecfjmdaa
set_option linter.unusedVariables false
set_option linter.unusedSimpArgs false
set_option linter.unnecessarySimpa false
set_option maxRecDepth 100000
open Go.RowKit
/-- no more than -/
def leB (a b : Bytes) : Bool := Op.bytesLess a b || a == b
def Adj {α : Type} (R : α → α → Prop) (l : List α) : Prop := ∀ (i : Nat) x y, l[i]? = some x → l[i + 1]? = some y → R x y
abbrev ltL (x y : Ln) : Prop := leB y.name x.name = false
abbrev ltS (x y : Se) : Prop := x.client < y.client
abbrev ltD (x y : Dn) : Prop := x.seq < y.seq
def Ordd (s : St) : Prop := Adj ltL s.links ∧ Adj ltS s.sess ∧ ∀ (i : Nat) (x : Se), s.sess[i]? = some x → Adj ltD x.done
/-- as far as k -/
def AdjTo {α : Type} (R : α → α → Prop) (l : List α) (k : Nat) : Prop := ∀ (i : Nat) x y, i + 1 < k → l[i]? = some x → l[i + 1]? = some y → R x y
theorem AdjTo.all {α : Type} {R : α → α → Prop} {l : List α} {k : Nat} (h : AdjTo R l k) (hk : l.length ≤ k) : Adj R l := fun i x y hx hy => h i x y (by have := (List.getElem?_eq_some_iff.1 hy).1; omega) hx hy
theorem AdjTo.one {α : Type} {R : α → α → Prop} {l : List α} {k : Nat} (hk : k ≤ 1) : AdjTo R l k := fun i x y h => by omega
theorem AdjTo.succ {α : Type} {R : α → α → Prop} {l : List α} {m : Nat} {x y : α} (h : AdjTo R l (m + 1)) (hx : l[m]? = some x) (hy : l[m + 1]? = some y) (hr : R x y) : AdjTo R l (m + 2) := fun i a b hi ha hb => by
  by_cases h1 : i = m
  · subst h1
    rw [hx] at ha
    rw [hy] at hb
    cases ha
    cases hb
    exact hr
  · exact h i a b (by omega) ha hb
theorem adj_pw {α : Type} {R : α → α → Prop} (ht : ∀ a b c, R a b → R b c → R a c) {l : List α} (h : Adj R l) : l.Pairwise R := by
  rw [List.pairwise_iff_getElem]
  intro i j hi hj hij
  obtain ⟨d, rfl⟩ : ∃ d, j = i + 1 + d := ⟨j - (i + 1), by omega⟩
  induction d with
  | zero => exact h i _ _ (List.getElem?_eq_getElem hi) (List.getElem?_eq_getElem hj)
  | succ d ih =>
    have h1 : i + 1 + d < l.length := by omega
    exact ht _ _ _ (ih h1 (by omega)) (h (i + 1 + d) _ _ (List.getElem?_eq_getElem h1) (List.getElem?_eq_getElem (by omega)))
theorem Ordd.rises {s : St} (h : Ordd s) : RiseS s.sess := adj_pw (R := ltS) (fun _ _ _ h1 h2 => Int.lt_trans h1 h2) h.2.1
theorem Ordd.rised {s : St} (h : Ordd s) : ∀ x ∈ s.sess, RiseD x.done := fun x hx => by
  obtain ⟨i, hi⟩ := List.mem_iff_getElem?.1 hx
  exact adj_pw (R := ltD) (fun _ _ _ h1 h2 => Int.lt_trans h1 h2) (h.2.2 i x hi)
def RetOrd (s : St) (w w' : World) (e : Ending) : Prop := ∃ b, e = .returned (.bool b) ∧ Ext w w' ∧ (b = true ↔ Ordd s)
theorem RetOrd.no {s : St} {w w' : World} (hx : Ext w w') (h : ¬ Ordd s) : RetOrd s w w' (.returned (.bool false)) := ⟨false, rfl, hx, by simp [h]⟩
set_option maxHeartbeats 6400000 in
theorem ordered_b (s : St) (cs : List Value) (w : World) (hs : stE.rep w noneAt cs s) :
    Calls Try.prog 23 #[.agg cs.toArray] w fun e w' => RetOrd s w w' e := by
  obtain ⟨vl, vs, rfl, s1, s2, s3, s4⟩ := st_rep.1 hs
  obtain ⟨Al, cl, rfl, q1, q2⟩ := s3.form
  obtain ⟨As, cs', rfl, q3, q4⟩ := s4.form
  have hll : s.links.length ≤ 9223372036854775807 := Nat.le_trans q1 q2
  have hl : s.sess.length ≤ 9223372036854775807 := Nat.le_trans q3 q4
  clear q1 q2 q3 q4
  obtain ⟨L, hL⟩ : ∃ l, s.links = l := ⟨_, rfl⟩
  obtain ⟨S, hS⟩ : ∃ l, s.sess = l := ⟨_, rfl⟩
  rw [hL] at s3 hll ⊢
  rw [hS] at s4 hl ⊢
  have HL := hide hL
  have HS := hide hS
  clear hL hS hs
  have hB := Blk.new w 26 #[.int .u64 s.now, .int .u64 s.count, .slice Al L.length cl, .slice As S.length cs']
  have hx0 : Ext w (w.alloc (.cells #[.int .u64 s.now, .int .u64 s.count, .slice Al L.length cl, .slice As S.length cs'] 26)) := (Ext.rfl' w).alloc' _
  obtain ⟨g, hg⟩ : ∃ g, w.heap.size = g := ⟨_, rfl⟩
  go_enter Try.func23, Try.ntmps23
  go_wp2_with fail
  rw [hg] at hB
  generalize w.alloc (.cells #[.int .u64 s.now, .int .u64 s.count, .slice Al L.length cl, .slice As S.length cs'] 26) = w1 at *
  generalize w.heap.size = g' at *
  go_loopw [3] (fun i wr => ∃ m : Nat, (m = 0 ∨ (m : Int) + 1 ≤ L.length) ∧ i = .int .i64 ((m : Int) + 1) ∧ Hid (AdjTo ltL L (m + 1)) ∧ Ext w1 wr) (fun i _ => (L.length + 1 - intOf i).toNat)
  case atStart => exact ⟨0, .inl rfl, rfl, hide (AdjTo.one (by omega)), Ext.rfl' _⟩
  case round =>
    obtain ⟨m, hm, rfl, ha, hx⟩ := hrel
    have b2 := ((hB.ext hx).cell 2).trans rfl
    by_cases hlt : (m : Int) + 1 < L.length
    · obtain ⟨ad, x, rfl, hxk, hbk, p0, -⟩ := ln_at (s3.ext (hx0.trans' hx)) (k := m) (by omega)
      obtain ⟨ad', y, had, hyk, hbk', r0, -⟩ := ln_at (s3.ext (hx0.trans' hx)) (k := m + 1) (by omega)
      cases had
      by_cases hle : (Op.bytesLess y.name x.name || y.name == x.name) = true
      · have hno : ¬ Ordd s := fun h => by
          have h1 := h.1 m x y (by rw [HL.out]; exact hxk.out) (by rw [HL.out]; exact hyk.out)
          unfold ltL leB at h1
          rw [hle] at h1
          cases h1
        have HNO := hide hno
        clear hno
        go_wp2_with fail
        go_region
        go_wp2
        go_ret
        exact RetOrd.no ((hx0.trans' hx).drew') HNO.out
      · replace hle : (Op.bytesLess y.name x.name || y.name == x.name) = false := by simpa using hle
        have HA := hide (ha.out.succ hxk.out hyk.out hle)
        go_wp2_with fail
        go_region
        go_wp2
        go_roundw
        case rel => exact ⟨m + 1, .inr (by omega), by go_num, HA, hx.drew'⟩
        case measure => simp [intOf]; omega
    · have HA1 := hide (AdjTo.all ha.out (by omega : L.length ≤ m + 1))
      clear ha
      go_wp2_with fail
      clear hm hlt
      have hxb := hB.ext hx
      have hx1 := hx0.trans' hx
      clear hB hx0 hx b2
      generalize wr = wA at *
      go_loopw [4] (fun i w2 => ∃ (k : Nat) (I : Int), I = k ∧ (k : Int) ≤ S.length ∧ i = .int .i64 I ∧ Hid (AdjTo ltS S k) ∧ Hid (∀ (j : Nat) (x : Se), j < k → S[j]? = some x → Adj ltD x.done) ∧ Ext wA w2) (fun i _ => (S.length - intOf i).toNat)
      case atStart => exact ⟨0, 0, rfl, by omega, rfl, hide (AdjTo.one (by omega)), hide (fun j x h => by omega), Ext.rfl' _⟩
      case round =>
        obtain ⟨k, I, hI, hk, rfl, ha, hd, hxx⟩ := hrel
        have hBr := hxb.ext hxx
        have hxr := hx1.trans' hxx
        have b3 := (hBr.cell 3).trans rfl
        by_cases hlt : (k : Int) < S.length
        · obtain ⟨ad, y, v, rfl, hyk, hbk, p0, p1, p2, p3, p4, p5⟩ := se_at (s4.ext hxr) (k := k) (by omega)
          obtain ⟨Ad, cd, rfl, hdy1, hdy2⟩ := p5.form
          have hdy : y.done.length ≤ 9223372036854775807 := Nat.le_trans hdy1 hdy2
          clear hdy1 hdy2
          cases k with
          | zero =>
            obtain rfl : I = 0 := hI
            have hz : 0 < S.length := by omega
            have hz1 : (0 : Int) < S.length := by omega
            have HAK : Hid (AdjTo ltS S (0 + 1)) := hide (AdjTo.one (by omega))
            go_wp2_with fail
            go_region
            have p2z : wr.cell? ⟨ad.block, ad.off + 2, none⟩ = some (.slice Ad y.done.length cd) := p2
            have p5d := p5.ext ((Ext.rfl' wr).drew')
            have hxd := hxx.drew'
            go_wp2_with fail
            clear b3 p0 p1 p2
            have hxrd := hxr.drew'
            generalize wr.drew = wC at *
            go_loopw [6] (fun i w3 => ∃ m : Nat, (m = 0 ∨ (m : Int) + 1 ≤ y.done.length) ∧ i = .int .i64 ((m : Int) + 1) ∧ Hid (AdjTo ltD y.done (m + 1)) ∧ Ext wC w3) (fun i _ => (y.done.length + 1 - intOf i).toNat)
            case atStart => exact ⟨0, .inl rfl, rfl, hide (AdjTo.one (by omega)), Ext.rfl' _⟩
            case round =>
              obtain ⟨n, hn, rfl, hq, hxe⟩ := hrel
              by_cases hlt3 : (n : Int) + 1 < y.done.length
              · obtain ⟨ae, d, rfl, hdk, hbe, e0, -⟩ := dn_at (p5d.ext hxe) (k := n) (by omega)
                obtain ⟨ae', d', hae, hdk', hbe', f0, -⟩ := dn_at (p5d.ext hxe) (k := n + 1) (by omega)
                cases hae
                by_cases hc3 : d'.seq ≤ d.seq
                · have hno : ¬ Ordd s := fun h => by
                    have h1 := h.2.2 (0) y (by rw [HS.out]; exact hyk.out) n d d' hdk.out hdk'.out
                    unfold ltD at h1
                    omega
                  have HNO := hide hno
                  clear hno
                  go_wp2_with fail
                  go_region
                  go_wp2
                  go_ret
                  exact RetOrd.no (hxrd.trans' hxe.drew') HNO.out
                · have HQ := hide (hq.out.succ hdk.out hdk'.out (by unfold ltD; omega))
                  go_wp2_with fail
                  go_region
                  go_wp2
                  go_roundw
                  case rel => first | exact ⟨n + 1, .inr (by omega), by go_num, HQ, hxe.drew'⟩ | exact ⟨_, _, _, _, _, _, _, _, _, _, _, _, _, _, _, _, _, _, _, _, ⟨n + 1, .inr (by omega), by go_num, HQ, hxe.drew'⟩, rfl⟩
                  case measure => simp [intOf]; omega
              · have HQ := hide (AdjTo.all hq.out (by omega : y.done.length ≤ n + 1))
                have HD2 : Hid (∀ (j : Nat) (x : Se), j < 0 + 1 → S[j]? = some x → Adj ltD x.done) := hide fun j x hj hx => by
                  by_cases hjk : j = 0
                  · subst hjk
                    rw [hyk.out] at hx
                    cases hx
                    exact HQ.out
                  · exact hd.out j x (by omega) hx
                go_wp2
                go_roundw
                case rel => exact ⟨0 + 1, 0 + 1, by omega, by omega, by go_num, HAK, HD2, hxd.trans' hxe⟩
                case measure => simp [intOf]; omega
          | succ m =>
            obtain rfl : I = (m : Int) + 1 := hI
            obtain ⟨ad', x, v', had, hxk, hbk', r0, -⟩ := se_at (s4.ext hxr) (k := m) (by omega)
            cases had
            have hmp : (0 : Int) < (m : Int) + 1 := by omega
            have hlt' : (m : Int) + 1 < S.length := by omega
            by_cases hc : y.client ≤ x.client
            · have hno : ¬ Ordd s := fun h => by
                have h1 := h.2.1 m x y (by rw [HS.out]; exact hxk.out) (by rw [HS.out]; exact hyk.out)
                unfold ltS at h1
                omega
              have HNO := hide hno
              clear hno
              go_wp2_with fail
              go_region
              go_wp2
              go_ret
              exact RetOrd.no hxr.drew' HNO.out
            · have HAK := hide (ha.out.succ hxk.out hyk.out (by unfold ltS; omega))
              go_wp2_with fail
              go_region
              have p5d := p5.ext ((Ext.rfl' wr).drew')
              have hxd := hxx.drew'
              go_wp2_with fail
              clear b3 p0 p1 p2
              have hxrd := hxr.drew'
              generalize wr.drew = wC at *
              go_loopw [6] (fun i w3 => ∃ m : Nat, (m = 0 ∨ (m : Int) + 1 ≤ y.done.length) ∧ i = .int .i64 ((m : Int) + 1) ∧ Hid (AdjTo ltD y.done (m + 1)) ∧ Ext wC w3) (fun i _ => (y.done.length + 1 - intOf i).toNat)
              case atStart => exact ⟨0, .inl rfl, rfl, hide (AdjTo.one (by omega)), Ext.rfl' _⟩
              case round =>
                obtain ⟨n, hn, rfl, hq, hxe⟩ := hrel
                by_cases hlt3 : (n : Int) + 1 < y.done.length
                · obtain ⟨ae, d, rfl, hdk, hbe, e0, -⟩ := dn_at (p5d.ext hxe) (k := n) (by omega)
                  obtain ⟨ae', d', hae, hdk', hbe', f0, -⟩ := dn_at (p5d.ext hxe) (k := n + 1) (by omega)
                  cases hae
                  by_cases hc3 : d'.seq ≤ d.seq
                  · have hno : ¬ Ordd s := fun h => by
                      have h1 := h.2.2 ((m + 1)) y (by rw [HS.out]; exact hyk.out) n d d' hdk.out hdk'.out
                      unfold ltD at h1
                      omega
                    have HNO := hide hno
                    clear hno
                    go_wp2_with fail
                    go_region
                    go_wp2
                    go_ret
                    exact RetOrd.no (hxrd.trans' hxe.drew') HNO.out
                  · have HQ := hide (hq.out.succ hdk.out hdk'.out (by unfold ltD; omega))
                    go_wp2_with fail
                    go_region
                    go_wp2
                    go_roundw
                    case rel => first | exact ⟨n + 1, .inr (by omega), by go_num, HQ, hxe.drew'⟩ | exact ⟨_, _, _, _, _, _, _, _, _, _, _, _, _, _, _, _, _, _, _, _, ⟨n + 1, .inr (by omega), by go_num, HQ, hxe.drew'⟩, rfl⟩
                    case measure => simp [intOf]; omega
                · have HQ := hide (AdjTo.all hq.out (by omega : y.done.length ≤ n + 1))
                  have HD2 : Hid (∀ (j : Nat) (x : Se), j < (m + 1) + 1 → S[j]? = some x → Adj ltD x.done) := hide fun j x hj hx => by
                    by_cases hjk : j = (m + 1)
                    · subst hjk
                      rw [hyk.out] at hx
                      cases hx
                      exact HQ.out
                    · exact hd.out j x (by omega) hx
                  go_wp2
                  go_roundw
                  case rel => exact ⟨(m + 1) + 1, (m + 1) + 1, by omega, by omega, by go_num, HAK, HD2, hxd.trans' hxe⟩
                  case measure => simp [intOf]; omega
        · have HA2 := hide (AdjTo.all ha.out (by omega : S.length ≤ k))
          have HD2 : Hid (∀ (j : Nat) (x : Se), S[j]? = some x → Adj ltD x.done) := hide fun j x hx => hd.out j x (by have := (List.getElem?_eq_some_iff.1 hx).1; omega) hx
          subst hI
          go_wp2_with fail
          go_ret
          refine ⟨true, rfl, hxr, ⟨fun _ => ⟨by rw [HL.out]; exact HA1.out, by rw [HS.out]; exact HA2.out, by rw [HS.out]; exact HD2.out⟩, fun _ => rfl⟩⟩
end Go.Proofs.Ythlbnajecfjmdaa
