import Derived.Test.YtggfemdgccgbpaaPk11
import Derived.Test.YtggfemdgccgbpaaPk35
import Derived.Laws.Cover1
import Derived.RegionTactic
import Derived.Deep.DeepCutAuto
import Derived.Test.YtggfemdgccgbpaaPk32
import Derived.Test.YtggfemdgccgbpaaPk36
import Derived.Test.YtggfemdgccgbpaaPk1
/- Parts of slices that read as plain lists. -/
namespace Go.Proofs.Ytggfemdgccgbpaa
set_option linter.unusedVariables false
set_option linter.unusedSimpArgs false
set_option linter.unnecessarySimpa false
set_option maxRecDepth 100000
open Go.RowKit
section
variable {α : Type} {E : Enc α} {w : World} {X : Avoid} {A : Option Addr} {n c k : Nat} {l : List α}
theorem Sl.front (h : Enc.Sl E w X (.slice A n c) l) (hk : k ≤ l.length) : Enc.Sl E w X (.slice A k c) (l.take k) := by
  obtain ⟨A', c', css, e, h1, h2, h3, h4, h5⟩ := h
  simp only [Value.slice.injEq] at e
  obtain ⟨rfl, rfl, rfl⟩ := e
  have hl : (l.take k).length = k := by rw [List.length_take, Nat.min_eq_left hk]
  refine ⟨A, c, css.take k, by rw [hl], by rw [hl]; omega, h2, ?_, fun ad he h0 => h4 ad he (by rw [hl] at h0; omega), h5.take k⟩
  rw [hl, ← flat_take css E.size k h5.lens]
  exact h3.front hk
theorem Sl.rest (h : Enc.Sl E w X (.slice A n c) l) (hk : k ≤ l.length) : Enc.Sl E w X (.slice (cutA E.size A c k) (l.length - k) (c - k)) (l.drop k) := by
  obtain ⟨A', c', css, e, h1, h2, h3, h4, h5⟩ := h
  simp only [Value.slice.injEq] at e
  obtain ⟨rfl, rfl, rfl⟩ := e
  have hl : (l.drop k).length = l.length - k := List.length_drop
  refine ⟨cutA E.size A c k, c - k, css.drop k, by rw [hl], by rw [hl]; omega, by omega, ?_, fun ad he h0 => ?_, h5.drop k⟩
  · rw [hl, ← flat_drop css E.size k h5.lens]
    exact h3.cutA hk h1
  · rw [hl] at h0
    unfold cutA at he
    split at he
    · exact h4 ad he (by omega)
    · cases A with
      | none => cases he
      | some a =>
        have := Option.some.inj he
        have hb : ad.block = a.block := by
          rw [← this]
          unfold Addr.add
          split <;> rfl
        rw [hb]
        exact h4 a rfl (by omega)
end
end Go.Proofs.Ytggfemdgccgbpaa

/- The document's links: small functions. -/
namespace Go.Proofs.Ytggfemdgccgbpaa
set_option linter.unusedVariables false
set_option linter.unusedSimpArgs false
set_option linter.unnecessarySimpa false
set_option maxRecDepth 100000
open Go.RowKit
theorem two_alR (W : World) (T1 T2 : TypeId) (c1 c2 : Array Value) : Blk ((W.alloc (.cells c1 T1)).alloc (.cells c2 T2)) W.heap.size T1 c1 ∧ Blk ((W.alloc (.cells c1 T1)).alloc (.cells c2 T2)) (W.heap.size + 1) T2 c2 ∧ Ext W ((W.alloc (.cells c1 T1)).alloc (.cells c2 T2)) := by
  have h2 := Blk.new (W.alloc (.cells c1 T1)) T2 c2
  rw [show (W.alloc (.cells c1 T1)).heap.size = W.heap.size + 1 by simp] at h2
  exact ⟨(Blk.new W T1 c1).alloc _, h2, ((Ext.rfl' W).alloc' _).alloc' _⟩
set_option maxHeartbeats 800000 in
theorem rtold_b (t : Bytes) (w : World) : Calls Try.prog 29 #[str t] w fun e w' => e = .returned (.agg #[.int .i64 0, str t]) ∧ Ext w w' := by
  go_enter Try.func29, Try.ntmps29
  go_wp2
  try simp only [Exit.inBlock, Exit.then]
  refine bodyPost_ret (results_cell_row rfl _ _ w.heap.size 33 (acells ⟨0, t⟩).toArray (0, 0) _ rfl (Blk.new w _ _) Try.underlying33 rfl (by kernel_rfl)) rfl ?_
  exact ⟨rfl, (Ext.rfl' w).alloc' _⟩
set_option maxHeartbeats 800000 in
theorem rfails_b (k : Int) (w : World) : Calls Try.prog 28 #[.int .i64 k] w fun e w' => e = .returned (.agg #[.int .i64 k, str []]) ∧ Ext w w' := by
  go_enter Try.func28, Try.ntmps28
  go_wp2
  try simp only [Exit.inBlock, Exit.then]
  refine bodyPost_ret (results_cell_row rfl _ _ w.heap.size 33 (acells ⟨k, []⟩).toArray (0, 0) _ rfl (Blk.new w _ _) Try.underlying33 rfl (by kernel_rfl)) rfl ?_
  exact ⟨rfl, (Ext.rfl' w).alloc' _⟩
set_option maxHeartbeats 1600000 in
theorem rbound_b (s : St) (c : Cm) (vl vs : Value) (w : World) :
    Calls Try.prog 41 #[.agg #[.int .u64 s.now, .int .u64 s.count, vl, vs], cv c] w fun e w' => e = .returned (.int .i64 (lmay c s.now)) ∧ Ext w w' := by
  obtain ⟨hB, hC, hx⟩ := two_alR w 28 37 #[.int .u64 s.now, .int .u64 s.count, vl, vs] (ccells c)
  have b0 := (hB.cell 0).trans rfl
  have c4 := (hC.cell 4).trans rfl
  have c5 := (hC.cell 5).trans rfl
  clear hB hC
  rcases Bool.eq_false_or_eq_true c.url.isEmpty with hu | hu
  · have HL : Hid (lmay c s.now = 1) := if_pos (.inl (by simpa using hu))
    rw [HL.out]
    go_enter Try.func41, Try.ntmps41
    go_wp2
    go_ret
    exact ⟨rfl, hx⟩
  rcases Bool.eq_false_or_eq_true (decide ((400 : Int) < c.url.length)) with hl | hl
  · have HL : Hid (lmay c s.now = 1) := if_pos (.inr (.inl (by have := of_decide_eq_true hl; omega)))
    rw [HL.out]
    go_enter Try.func41, Try.ntmps41
    go_wp2
    go_ret
    exact ⟨rfl, hx⟩
  rcases Bool.eq_false_or_eq_true (decide (1099511627776 < c.till)) with ht | ht
  · have HL : Hid (lmay c s.now = 1) := if_pos (.inr (.inr (of_decide_eq_true ht)))
    rw [HL.out]
    go_enter Try.func41, Try.ntmps41
    go_wp2
    go_ret
    exact ⟨rfl, hx⟩
  have HN : Hid (¬ (c.url = [] ∨ 400 < c.url.length ∨ 1099511627776 < c.till)) := hide (by
    rintro (h | h | h)
    · rw [h] at hu; cases hu
    · have := of_decide_eq_false hl; omega
    · exact of_decide_eq_false ht h)
  by_cases h0 : c.till = 0
  · have HL : Hid (lmay c s.now = 0) := by unfold Hid lmay; rw [if_neg HN.out, if_neg (by simp [h0])]
    rw [HL.out]
    clear HL HN
    obtain ⟨kind, client, seq, name, url, till⟩ := c
    simp only at h0 hu hl ht
    subst h0
    go_enter Try.func41, Try.ntmps41
    go_wp2
    go_ret
    exact ⟨rfl, hx⟩
  have h0' : (c.till != 0) = true := by simpa using h0
  rcases Bool.eq_false_or_eq_true (decide (c.till ≤ s.now)) with h1 | h1
  · have HL : Hid (lmay c s.now = 13) := by unfold Hid lmay; rw [if_neg HN.out, if_pos ⟨h0, of_decide_eq_true h1⟩]
    rw [HL.out]
    clear HN h0
    go_enter Try.func41, Try.ntmps41
    go_wp2
    go_ret
    exact ⟨rfl, hx⟩
  · have HL : Hid (lmay c s.now = 0) := by unfold Hid lmay; rw [if_neg HN.out, if_neg (fun h => of_decide_eq_false h1 h.2)]
    rw [HL.out]
    clear HN h0
    go_enter Try.func41, Try.ntmps41
    go_wp2
    go_ret
    exact ⟨rfl, hx⟩
/-- what the document's Find tells -/
def rfv (l : List Ln) (n : Bytes) : Ln × Bool := match rfind l n with
  | some x => (x, true)
  | none => (Ln0, false)
set_option maxHeartbeats 1600000 in
theorem lrfind_b (X : Avoid) (s : St) (A : Option Addr) (c : Nat) (vs : Value) (n : Bytes) (w : World) (hl : Enc.Sl lnE w X (.slice A s.links.length c) s.links) (hll : s.links.length ≤ 10000) :
    Calls Try.prog 32 #[.agg #[.int .u64 s.now, .int .u64 s.count, .slice A s.links.length c, vs], str n] w fun e w' => e = .returned (.tuple #[.agg (lcells (rfv s.links n).1).toArray, .bool (rfv s.links n).2]) ∧ Ext w w' := by
  obtain ⟨hB, hL, hx0⟩ := two_alR w 28 48 #[.int .u64 s.now, .int .u64 s.count, .slice A s.links.length c, vs] #[str [], str [], .int .u64 0, .bool false]
  obtain ⟨g, hg⟩ : ∃ g, w.heap.size = g := ⟨_, rfl⟩
  rw [hg] at hB hL
  obtain ⟨⟨yr, is⟩, hr⟩ : ∃ r, rfv s.links n = r := ⟨_, rfl⟩
  rw [hr]
  have HR := hide hr
  clear hr
  go_enter Try.func32, Try.ntmps32
  go_upto_region 1 with fail
  generalize ((w.alloc (.cells #[.int .u64 s.now, .int .u64 s.count, .slice A s.links.length c, vs] 28)).alloc (.cells #[str [], str [], .int .u64 0, .bool false] 48)) = w1 at *
  try rw [hg]
  go_wp2_with fail
  go_loopw [6] (fun i wr => ∃ k : Nat, k ≤ s.links.length ∧ i = .int .i64 k ∧ Hid (∀ j x, j < k → s.links[j]? = some x → ¬ x.name = n) ∧ Ext w1 wr) (fun i _ => (s.links.length - intOf i).toNat)
  case atStart => exact ⟨0, by omega, rfl, hide (fun j x h => absurd h (by omega)), Ext.rfl' _⟩
  case round =>
    obtain ⟨k, hk, rfl, hno, hxr⟩ := hrel
    have hBr := hB.ext hxr
    have hLr := hL.ext hxr
    have b2 := (hBr.cell 2).trans rfl
    have l0 := (hLr.cell 0).trans rfl
    have l1 := (hLr.cell 1).trans rfl
    have l2 := (hLr.cell 2).trans rfl
    have l3 := (hLr.cell 3).trans rfl
    have n0 := hLr.frozen 0
    have n1 := hLr.frozen 1
    have n2 := hLr.frozen 2
    have n3 := hLr.frozen 3
    by_cases hlt : (k : Int) < s.links.length
    · obtain ⟨ad, y, rfl, hyk, hbp, p0, p1, p2, p3, -⟩ := ln_at (hl.ext (hx0.trans' hxr)) (k := k) (by omega)
      have hk0 : (0 : Int) ≤ k := by omega
      rcases Bool.eq_false_or_eq_true (y.name == n) with he | he
      · have HF : Hid (rfv s.links n = (y, true)) := by
          have h1 : y.name = n := eq_of_beq he
          unfold Hid rfv rfind
          have h2 : s.links.find? (fun x => decide (x.name = n)) = some y := by
            have h3 := hyk.out
            rw [List.find?_eq_some_iff_getElem]
            obtain ⟨h4, h5⟩ := List.getElem?_eq_some_iff.1 h3
            refine ⟨by simpa using h1, k, h4, h5, fun j hj => ?_⟩
            have := hno.out j _ hj (List.getElem?_eq_getElem (by omega))
            simpa using this
          rw [h2]
        obtain ⟨rfl, rfl⟩ := Prod.mk.inj (HR.out.symm.trans HF.out)
        go_wp2
        try simp only [Exit.inBlock, Exit.then]
        refine bodyPost_ret (results_cell2 rfl _ _ (g + 1) 48 (lcells yr).toArray (0, 0) _ rfl (Blk.four hLr (str yr.name) (str yr.url) (.int .u64 yr.till) (.bool yr.made)) Try.underlying48 rfl (by kernel_rfl)) rfl ?_
        exact ⟨rfl, (hx0.trans' hxr).then_ ((Chg.refl [g + 1] wr).four (by simp) _ _ _ _) (by simp; omega)⟩
      · clear n0 n1 n2 n3
        go_wp2
        go_roundw
        case rel => exact ⟨k + 1, by omega, by go_num, hide (fun j x hj hx => by
          rcases Nat.lt_or_ge j k with h | h
          · exact hno.out j x h hx
          · obtain rfl : j = k := by omega
            obtain rfl := Option.some.inj (hx.symm.trans hyk.out)
            intro h5
            rw [h5] at he
            simp at he), hxr⟩
        case measure => simp [intOf]; omega
    · have HF : Hid (rfv s.links n = (Ln0, false)) := by
        unfold Hid rfv rfind
        have h2 : s.links.find? (fun x => decide (x.name = n)) = none := by
          rw [List.find?_eq_none]
          intro x hx
          obtain ⟨j, hj⟩ := List.mem_iff_getElem?.1 hx
          have h4 := (List.getElem?_eq_some_iff.1 hj).1
          have := hno.out j x (by omega) hj
          simpa using this
        rw [h2]
      obtain ⟨rfl, rfl⟩ := Prod.mk.inj (HR.out.symm.trans HF.out)
      go_wp2
      try simp only [Exit.inBlock, Exit.then]
      refine bodyPost_ret (results_cell2 rfl _ _ (g + 1) 48 (lcells Ln0).toArray (0, 0) _ rfl (Blk.four hLr (str []) (str []) (.int .u64 0) (.bool false)) Try.underlying48 rfl (by kernel_rfl)) rfl ?_
      exact ⟨rfl, (hx0.trans' hxr).then_ ((Chg.refl [g + 1] wr).four (by simp) _ _ _ _) (by simp; omega)⟩
end Go.Proofs.Ytggfemdgccgbpaa

/- The document's put: one more link. -/
namespace Go.Proofs.Ytggfemdgccgbpaa
set_option linter.unusedVariables false
set_option linter.unusedSimpArgs false
set_option linter.unnecessarySimpa false
set_option maxRecDepth 100000
open Go.RowKit
theorem cntP_firstL {α : Type} (p : α → Bool) : ∀ (l : List α) (k : Nat), k ≤ l.length → (∀ (j : Nat) (x : α), j < k → l[j]? = some x → p x = true) → (∀ (x : α), l[k]? = some x → p x = false) → cntP p l = k
  | [], k, hk, _, _ => by simp [cntP] at *; omega
  | a :: l, 0, _, _, h => by simp [cntP, h a rfl]
  | a :: l, k + 1, hk, h1, h2 => by
    have ih := cntP_firstL p l k (by simpa using hk) (fun j x hj hx => h1 (j + 1) x (by omega) (by simpa using hx)) (fun x hx => h2 x (by simpa using hx))
    unfold cntP at *
    rw [List.takeWhile_cons, if_pos (h1 0 a (by omega) rfl)]
    simp [ih]
theorem three_al (W : World) (T1 T2 T3 : TypeId) (c1 c2 c3 : Array Value) : Blk (((W.alloc (.cells c1 T1)).alloc (.cells c2 T2)).alloc (.cells c3 T3)) W.heap.size T1 c1 ∧ Blk (((W.alloc (.cells c1 T1)).alloc (.cells c2 T2)).alloc (.cells c3 T3)) (W.heap.size + 1) T2 c2 ∧
    Blk (((W.alloc (.cells c1 T1)).alloc (.cells c2 T2)).alloc (.cells c3 T3)) (W.heap.size + 1 + 1) T3 c3 ∧ Ext W (((W.alloc (.cells c1 T1)).alloc (.cells c2 T2)).alloc (.cells c3 T3)) := by
  obtain ⟨h1, h2, hx⟩ := two_alR W T1 T2 c1 c2
  have h3 := Blk.new ((W.alloc (.cells c1 T1)).alloc (.cells c2 T2)) T3 c3
  rw [show ((W.alloc (.cells c1 T1)).alloc (.cells c2 T2)).heap.size = W.heap.size + 1 + 1 by simp] at h3
  exact ⟨h1.alloc _, h2.alloc _, h3, hx.alloc' _⟩
set_option maxHeartbeats 6400000 in
theorem lrput_b (X : Avoid) (s : St) (A : Option Addr) (c : Nat) (B : Option Addr) (d : Nat) (x : Ln) (w : World) (hX : ∀ k, X k → k < w.heap.size) (hs : stE.rep w X [.int .u64 s.now, .int .u64 s.count, .slice A s.links.length c, .slice B s.sess.length d] s)
    (hx1 : x.name.length ≤ maxLen) (hx2 : x.url.length ≤ maxLen) (hx3 : U64 x.till) (hll : s.links.length ≤ 10000) :
    Calls Try.prog 43 #[.agg #[.int .u64 s.now, .int .u64 s.count, .slice A s.links.length c, .slice B s.sess.length d], .agg (lcells x).toArray] w fun e w' =>
      ∃ (l : List Ln) (A' : Option Addr) (c' : Nat), Hid (l = lkput s.links x) ∧ e = .returned (.agg #[.int .u64 s.now, .int .u64 s.count, .slice A' l.length c', .slice B s.sess.length d]) ∧
        stE.rep w' X [.int .u64 s.now, .int .u64 s.count, .slice A' l.length c', .slice B s.sess.length d] ⟨s.now, s.count, l, s.sess⟩ ∧ Ext w w' := by
  obtain ⟨vl, vs, hcs, s1, s2, s3, s4⟩ := st_rep.1 hs
  simp only [List.cons.injEq, and_true, true_and] at hcs
  obtain ⟨rfl, rfl⟩ := hcs
  have hcl : s.links.length ≤ c := s3.inv.2.1
  obtain ⟨hB, hL, hR, hx0⟩ := three_al w 28 48 28 #[.int .u64 s.now, .int .u64 s.count, .slice A s.links.length c, .slice B s.sess.length d] (lcells x).toArray #[.int .u64 0, .int .u64 0, .slice none 0 0, .slice none 0 0]
  obtain ⟨g, hg⟩ : ∃ g, w.heap.size = g := ⟨_, rfl⟩
  rw [hg] at hB hL hR
  have hXl : ∀ k, X k → k < g := fun k hk => by rw [← hg]; exact hX k hk
  go_enter Try.func43, Try.ntmps43
  go_upto_region 1 with fail
  generalize (((w.alloc (.cells #[.int .u64 s.now, .int .u64 s.count, .slice A s.links.length c, .slice B s.sess.length d] 28)).alloc (.cells (lcells x).toArray 48)).alloc (.cells #[.int .u64 0, .int .u64 0, .slice none 0 0, .slice none 0 0] 28)) = w1 at *
  try rw [hg]
  go_wp2_with fail
  go_loopw [5] (fun i wr => ∃ k : Nat, k ≤ s.links.length ∧ i = .int .i64 k ∧ Hid (∀ (j : Nat) (y : Ln), j < k → s.links[j]? = some y → ltN x.name y = true) ∧ Ext w1 wr) (fun i _ => (s.links.length - intOf i).toNat)
  case atStart => exact ⟨0, by omega, rfl, hide (fun j y h => by omega), Ext.rfl' _⟩
  case round =>
    obtain ⟨k, hk, rfl, hd, hxr⟩ := hrel
    have hBr := hB.ext hxr
    have hLr := hL.ext hxr
    have hRr := hR.ext hxr
    have b2 := (hBr.cell 2).trans rfl
    have l0 := (hLr.cell 0).trans rfl
    have hk0 : (0 : Int) ≤ k := by omega
    go_upto_region 2 with fail
    go_cut [22] (fun b wx => ∃ bb : Bool, b = .bool bb ∧ Ext wr wx ∧ Hid (bb = true → ∃ y, s.links[k]? = some y ∧ ltN x.name y = true) ∧ Hid (bb = false → ∀ y, s.links[k]? = some y → ltN x.name y = false))
    case first =>
      have hdx := (Ext.rfl' wr).drew'
      by_cases hlt : (k : Int) < s.links.length
      · obtain ⟨ad, y, rfl, hyk, hbp, p0, -⟩ := ln_at (s3.ext (hx0.trans' hxr)) (k := k) (by omega)
        rcases Bool.eq_false_or_eq_true (Op.bytesLess y.name x.name) with hb | hb
        · go_region
          go_wp2_with fail
          go_meet
          case rel => exact ⟨true, rfl, hdx, hide (fun _ => ⟨y, hyk.out, hb⟩), hide (fun h => by cases h)⟩
        · go_region
          go_wp2_with fail
          go_meet
          case rel => exact ⟨false, rfl, hdx, hide (fun h => by cases h), hide (fun _ z hz => by obtain rfl := Option.some.inj (hz.symm.trans hyk.out); exact hb)⟩
      · go_region
        go_wp2_with fail
        go_meet
        case rel => exact ⟨false, rfl, hdx, hide (fun h => by cases h), hide (fun _ z hz => by have := (List.getElem?_eq_some_iff.1 hz).1; omega)⟩
    case rest =>
      obtain ⟨bb, rfl, hxc, hbt, hbf⟩ := hcut
      replace hxr := hxr.trans' hxc
      replace hBr := hBr.ext hxc
      replace hLr := hLr.ext hxc
      replace hRr := hRr.ext hxc
      generalize wc = W2 at *
      clear b2 l0 hxc
      cases bb with
      | true =>
        obtain ⟨y, hy1, hy2⟩ := hbt.out rfl
        have hkl := (List.getElem?_eq_some_iff.1 hy1).1
        have HY := hide hy1
        have HY2 := hide hy2
        clear hy1 hy2
        go_wp2_with fail
        go_roundw
        case rel => exact ⟨k + 1, by omega, by go_num, hide (fun j z hj hz => by
          rcases Nat.lt_or_ge j k with h | h
          · exact hd.out j z h hz
          · obtain rfl : j = k := by omega
            obtain rfl := Option.some.inj (hz.symm.trans HY.out)
            exact HY2.out), hxr⟩
        case measure => simp [intOf]; omega
      | false =>
        have HK : Hid (cntP (ltN x.name) s.links = k) := hide (cntP_firstL _ _ k hk hd.out (hbf.out rfl))
        have hx2w := hx0.trans' hxr
        have hg2 : g + 1 + 1 < W2.heap.size := hRr.lt
        have b2 := (hBr.cell 2).trans rfl
        have hkc : k ≤ c := by omega
        have hcX : ∀ j, (g ≤ j ∧ j ≤ g + 1 + 1) → j < W2.heap.size := fun j h => by omega
        have hy1 : Enc.Sl lnE W2 (fun j => (X j ∨ (g ≤ j ∧ j ≤ g + 1 + 1)) ∨ (Value.slice none 0 0).ownBlock = some j) (.slice A k c) (s.links.take k) := (Sl.front (s3.mono fun j hj h => by
          rcases h with (h | h) | h
          · exact h
          · omega
          · cases h) hk).ext hx2w
        clear hd hbt hbf
        go_upto_region 6 with (at_builtin; refine wpList_own elt_ln 25 Try.underlying25 rfl _ _ rfl (Own.nil 48 lnE W2 W2 (fun j => X j ∨ (g ≤ j ∧ j ≤ g + 1 + 1))) rfl (Ext.rfl' W2) (m := s.links.take k) (y := .slice A k c) rfl hy1 (fun h => h.elim (fun h => by have := hXl _ h; omega) (fun h => by omega)) (by rw [List.length_take]; simp only [List.length_nil]; omega) (by rw [List.length_take]; simp only [List.length_nil]; omega) ?_; intro l1 A1 c1 w3 hl1 hown1 hx3_ hc3)
        have hL3 := hLr.ext hx3_
        have l0 := (hL3.cell 0).trans rfl
        have l1_ := (hL3.cell 1).trans rfl
        have l2_ := (hL3.cell 2).trans rfl
        have l3_ := (hL3.cell 3).trans rfl
        have hxa : Ext w3 (w3.alloc (.cells #[str x.name, str x.url, .int .u64 x.till, .bool x.made] 48)) := (Ext.rfl' w3).alloc' _
        have hl1l : l1.length = k := by rw [hl1.out]; simp; omega
        have hlit : Enc.Sl lnE (w3.alloc (.cells #[str x.name, str x.url, .int .u64 x.till, .bool x.made] 48)) (fun j => (X j ∨ (g ≤ j ∧ j ≤ g + 1 + 1)) ∨ (Value.slice A1 l1.length c1).ownBlock = some j) (.slice (some ⟨w3.heap.size, 0, none⟩) 1 1) [x] :=
          Sl.one (E := lnE) 48 (cs := lcells x) (ln_rep.2 ⟨rfl, hx1, hx2, hx3⟩) _ rfl (fun h => by
            have := hx3_.size
            rcases h with (h | h) | h
            · have := hXl _ h; omega
            · omega
            · have := (hown1.lt _ h).2; omega)
        have HL1 := hide hl1l
        clear hl1l
        go_upto_region 7 with (at_builtin; go_loud (refine wpList_own elt_ln 25 Try.underlying25 rfl _ _ rfl (hown1.ext hxa) rfl (hx3_.trans' hxa) (m := [x]) (y := .slice (some ⟨w3.heap.size, 0, none⟩) 1 1) rfl hlit (fun h => by have := (hx3_.trans' hxa).size; rcases h with h | h; (have := hXl _ h; omega); omega) (by have := HL1.out; simp only [List.length_singleton]; omega) (by have := HL1.out; simp only [List.length_singleton]; omega) ?_; intro l2 A2 c2 w4 hl2 hown2 hx4 hc4))
        have hl2l : Hid (l2.length = k + 1) := hide (by rw [hl2.out]; simp; exact HL1.out)
        clear b2 l0 l1_ l2_ l3_ hlit hxa hL3 hc3 hc4
        have hB4 := hBr.ext hx4
        have b2 := (hB4.cell 2).trans rfl
        have hy3 : Enc.Sl lnE w4 (fun j => (X j ∨ (g ≤ j ∧ j ≤ g + 1 + 1)) ∨ (Value.slice A2 l2.length c2).ownBlock = some j) (.slice (cutA 4 A c k) (s.links.length - k) (c - k)) (s.links.drop k) := (Sl.rest (s3.mono fun j hj h => by
          rcases h with (h | h) | h
          · exact h
          · omega
          · have := (hown2.lt j h).1; have := hx2w.size; omega) hk).ext (hx2w.trans' hx4)
        have hsd : (s.links.drop k).length = s.links.length - k := List.length_drop
        go_upto_region 8 with (at_builtin; refine wpList_own elt_ln 25 Try.underlying25 rfl _ _ rfl hown2 rfl hx4 (m := s.links.drop k) (y := .slice (cutA 4 A c k) (s.links.length - k) (c - k)) rfl hy3 (fun h => by have := hx4.size; rcases h with h | h; (have := hXl _ h; omega); omega) (by have := hl2l.out; rw [hsd]; omega) (by have := hl2l.out; rw [hsd]; omega) ?_; intro l3 A3 c3 w5 hl3 hown3 hx5 hc5; have z3 := (hBr.ext hx5).frozen 2; have d3 := ((hBr.ext hx5).cell 2).trans rfl)
        have hs6 : Chg [g] w5 (w5.setCell ⟨g, 2, none⟩ (.slice A3 l3.length c3)) := (Chg.refl _ _).set (by simp) _
        have hB6 := (hBr.ext hx5).set_ 2 (.slice A3 l3.length c3)
        have hR6 := (hRr.ext hx5).chg hs6 (by simp; omega)
        have hown6 := hown3.chg hs6 (fun k hk _ => by have := List.mem_singleton.1 hk; exact .inr (by omega))
        have hx6 := (hx2w.trans' hx5).then_ hs6 (by simp; omega)
        have hs4 := (s4.ext (hx2w.trans' hx5))
        generalize w5.setCell ⟨g, 2, none⟩ (.slice A3 l3.length c3) = W6 at *
        clear b2 z3 d3 hs6 hc5 hown3
        have b0 := (hB6.cell 0).trans rfl
        have b1 := (hB6.cell 1).trans rfl
        have b2 := (hB6.cell 2).trans rfl
        have b3 := (hB6.cell 3).trans rfl
        have e0 := (hR6.cell 0).trans rfl
        have e1 := (hR6.cell 1).trans rfl
        have e2 := (hR6.cell 2).trans rfl
        have e3 := (hR6.cell 3).trans rfl
        have f0 := hR6.frozen 0
        have f1 := hR6.frozen 1
        have f2 := hR6.frozen 2
        have f3 := hR6.frozen 3
        go_wp2
        try simp only [Exit.inBlock, Exit.then]
        have hcf : Chg [g + 1 + 1] W6 _ := (Chg.refl [g + 1 + 1] W6).four (g := g + 1 + 1) (by simp) (.int .u64 s.now) (.int .u64 s.count) (.slice A3 l3.length c3) (.slice B s.sess.length d)
        refine bodyPost_ret (results_cell_row rfl _ _ (g + 1 + 1) 28 #[.int .u64 s.now, .int .u64 s.count, .slice A3 l3.length c3, .slice B s.sess.length d] (0, 0) _ rfl (Blk.four hR6 (.int .u64 s.now) (.int .u64 s.count) (.slice A3 l3.length c3) (.slice B s.sess.length d)) Try.underlying28 rfl (by kernel_rfl)) rfl ?_
        have hxf := hx6.then_ hcf (by simp; omega)
        refine ⟨l3, A3, c3, hide ?_, rfl, st_rep.2 ⟨_, _, rfl, s1, s2, ?_, s4.ext hxf⟩, hxf⟩
        · rw [hl3.out, hl2.out, hl1.out]
          unfold lkput
          rw [HK.out]
          simp
        · exact ((hown6.chg hcf (fun k hk _ => by have := List.mem_singleton.1 hk; exact .inr (by omega))).sl).mono fun j _ h => .inl h
end Go.Proofs.Ytggfemdgccgbpaa

/- The document's links: making, naming. -/
namespace Go.Proofs.Ytggfemdgccgbpaa
set_option linter.unusedVariables false
set_option linter.unusedSimpArgs false
set_option linter.unnecessarySimpa false
set_option maxRecDepth 100000
open Go.RowKit
abbrev XQ (X : Avoid) (g : Nat) : Avoid := fun k => X k ∨ (g ≤ k ∧ k ≤ g + 1 + 1 + 1)
theorem four_al (W : World) (T1 T2 T3 T4 : TypeId) (c1 c2 c3 c4 : Array Value) : Blk ((((W.alloc (.cells c1 T1)).alloc (.cells c2 T2)).alloc (.cells c3 T3)).alloc (.cells c4 T4)) W.heap.size T1 c1 ∧ Blk ((((W.alloc (.cells c1 T1)).alloc (.cells c2 T2)).alloc (.cells c3 T3)).alloc (.cells c4 T4)) (W.heap.size + 1) T2 c2 ∧
    Blk ((((W.alloc (.cells c1 T1)).alloc (.cells c2 T2)).alloc (.cells c3 T3)).alloc (.cells c4 T4)) (W.heap.size + 1 + 1) T3 c3 ∧ Blk ((((W.alloc (.cells c1 T1)).alloc (.cells c2 T2)).alloc (.cells c3 T3)).alloc (.cells c4 T4)) (W.heap.size + 1 + 1 + 1) T4 c4 ∧ Ext W ((((W.alloc (.cells c1 T1)).alloc (.cells c2 T2)).alloc (.cells c3 T3)).alloc (.cells c4 T4)) := by
  obtain ⟨h1, h2, h3, hx⟩ := three_al W T1 T2 T3 c1 c2 c3
  have h4 := Blk.new (((W.alloc (.cells c1 T1)).alloc (.cells c2 T2)).alloc (.cells c3 T3)) T4 c4
  rw [show (((W.alloc (.cells c1 T1)).alloc (.cells c2 T2)).alloc (.cells c3 T3)).heap.size = W.heap.size + 1 + 1 + 1 by simp] at h4
  exact ⟨h1.alloc _, h2.alloc _, h3.alloc _, h4, hx.alloc' _⟩
theorem fin_do {X : Avoid} {w W : World} {g : Nat} {s : St} {v0 v1 v2 v3 : Value} {e : Int} {tx : Bytes} (hR : Blk W (g + 1 + 1) 28 #[.int .u64 0, .int .u64 0, .slice none 0 0, .slice none 0 0]) (hA : Blk W (g + 1 + 1 + 1) 33 #[.int .i64 0, str []])
    (hx : Ext w W) (hg : w.heap.size ≤ g) (hr : stE.rep W (XQ X g) [v0, v1, v2, v3] s) :
    Blk ((((((W.setCell ⟨g + 1 + 1, 0, none⟩ v0).setCell ⟨g + 1 + 1, 1, none⟩ v1).setCell ⟨g + 1 + 1, 2, none⟩ v2).setCell ⟨g + 1 + 1, 3, none⟩ v3).setCell ⟨g + 1 + 1 + 1, 0, none⟩ (.int .i64 e)).setCell ⟨g + 1 + 1 + 1, 1, none⟩ (str tx)) (g + 1 + 1) 28 #[v0, v1, v2, v3] ∧
    Blk ((((((W.setCell ⟨g + 1 + 1, 0, none⟩ v0).setCell ⟨g + 1 + 1, 1, none⟩ v1).setCell ⟨g + 1 + 1, 2, none⟩ v2).setCell ⟨g + 1 + 1, 3, none⟩ v3).setCell ⟨g + 1 + 1 + 1, 0, none⟩ (.int .i64 e)).setCell ⟨g + 1 + 1 + 1, 1, none⟩ (str tx)) (g + 1 + 1 + 1) 33 #[.int .i64 e, str tx] ∧
    stE.rep ((((((W.setCell ⟨g + 1 + 1, 0, none⟩ v0).setCell ⟨g + 1 + 1, 1, none⟩ v1).setCell ⟨g + 1 + 1, 2, none⟩ v2).setCell ⟨g + 1 + 1, 3, none⟩ v3).setCell ⟨g + 1 + 1 + 1, 0, none⟩ (.int .i64 e)).setCell ⟨g + 1 + 1 + 1, 1, none⟩ (str tx)) X [v0, v1, v2, v3] s ∧
    Ext w ((((((W.setCell ⟨g + 1 + 1, 0, none⟩ v0).setCell ⟨g + 1 + 1, 1, none⟩ v1).setCell ⟨g + 1 + 1, 2, none⟩ v2).setCell ⟨g + 1 + 1, 3, none⟩ v3).setCell ⟨g + 1 + 1 + 1, 0, none⟩ (.int .i64 e)).setCell ⟨g + 1 + 1 + 1, 1, none⟩ (str tx)) := by
  have h1 := Blk.four hR v0 v1 v2 v3
  have hcg : Chg [g + 1 + 1] W _ := (Chg.refl [g + 1 + 1] W).four (g := g + 1 + 1) (by simp) v0 v1 v2 v3
  have h2 := Blk.two_ (hA.chg hcg (by simp)) (.int .i64 e) (str tx)
  have hc2 : Chg [g + 1 + 1 + 1] _ _ := (Chg.refl [g + 1 + 1 + 1] ((((W.setCell ⟨g + 1 + 1, 0, none⟩ v0).setCell ⟨g + 1 + 1, 1, none⟩ v1).setCell ⟨g + 1 + 1, 2, none⟩ v2).setCell ⟨g + 1 + 1, 3, none⟩ v3)).two_ (g := g + 1 + 1 + 1) (by simp) (.int .i64 e) (str tx)
  exact ⟨h1.chg hc2 (by simp), h2, stE.mono (stE.chg (stE.chg hr hcg (fun j hj _ => by have := List.mem_singleton.1 hj; exact .inr (by omega))) hc2 (fun j hj _ => by have := List.mem_singleton.1 hj; exact .inr (by omega))) (fun _ _ h => .inl h), (hx.then_ hcg (by simp; omega)).then_ hc2 (by simp; omega)⟩
set_option maxHeartbeats 12800000 in
theorem lrname_b (X : Avoid) (s : St) (A : Option Addr) (c0 : Nat) (B : Option Addr) (d0 : Nat) (c : Cm) (w : World) (hX : ∀ k, X k → k < w.heap.size) (hs : stE.rep w X [.int .u64 s.now, .int .u64 s.count, .slice A s.links.length c0, .slice B s.sess.length d0] s) (hc : c.wide) (hcn : c.name.length ≤ 1000000) (hll : s.links.length ≤ 1000) :
    Calls Try.prog 31 #[.agg #[.int .u64 s.now, .int .u64 s.count, .slice A s.links.length c0, .slice B s.sess.length d0], cv c] w fun e w' => RetDo X w w' e (lnameW rfind lkput s c) := by
  obtain ⟨vl, vs, hcs, s1, s2, s3, s4⟩ := st_rep.1 hs
  simp only [List.cons.injEq, and_true, true_and] at hcs
  obtain ⟨rfl, rfl⟩ := hcs
  obtain ⟨hB, hC, hR_, hA, hxw⟩ := four_al w 28 37 28 33 #[.int .u64 s.now, .int .u64 s.count, .slice A s.links.length c0, .slice B s.sess.length d0] (ccells c) #[.int .u64 0, .int .u64 0, .slice none 0 0, .slice none 0 0] #[.int .i64 0, str []]
  obtain ⟨g, hg⟩ : ∃ g, w.heap.size = g := ⟨_, rfl⟩
  rw [hg] at hB hC hR_ hA
  have hgw : w.heap.size ≤ g := by omega
  have hXl : ∀ k, X k → k < g := fun k hk => by rw [← hg]; exact hX k hk
  have hrq := stE.ext (stE.mono hs (Y := XQ X g) fun k hk h => h.elim id fun h => by omega) hxw
  obtain ⟨r, hr⟩ : ∃ r, lnameW rfind lkput s c = r := ⟨_, rfl⟩
  rw [hr]
  have HRR := hide hr
  clear hr
  go_enter Try.func31, Try.ntmps31
  go_upto_region 1 with fail
  generalize ((((w.alloc (.cells #[.int .u64 s.now, .int .u64 s.count, .slice A s.links.length c0, .slice B s.sess.length d0] 28)).alloc (.cells (ccells c) 37)).alloc (.cells #[.int .u64 0, .int .u64 0, .slice none 0 0, .slice none 0 0] 28)).alloc (.cells #[.int .i64 0, str []] 33)) = w1 at *
  try rw [hg]
  obtain ⟨al, hal⟩ : ∃ al, isAlias c.name = al := ⟨_, rfl⟩
  have HAL := hide hal
  have HA1 := hide (fun W => ralias_b ⟨c.name.toArray⟩ W (by simp [ByteArray.size]; omega))
  change Hid (∀ W, Calls Try.prog 44 #[str c.name] W fun e w' => e = .returned (.bool (isAlias c.name)) ∧ W = w') at HA1
  rw [hal] at HA1
  clear hal
  have c_3 := (hC.cell 3).trans rfl
  go_wp2_with fail
  refine (HA1.out _).mono ?_
  rintro e W1 ⟨rfl, hW1⟩
  subst hW1
  clear c_3
  cases al with
  | false =>
    go_wp2_with fail
    refine Rg.regionT Try.checked.mixed 73 2 (by kernel_rfl) [
      (fun x_ _ => x_ = .agg #[.int .u64 s.now, .int .u64 s.count, .slice A s.links.length c0, .slice B s.sess.length d0]),
      (fun x_ _ => x_ = .agg #[.int .i64 (9), str ([])])] (fun W => Ext w1 W) Ext rfl rfl rfl
      ?st ((Ext.rfl' w1).drew') ?ob ?en
    case st => exact ⟨fun _ _ _ h _ => h, fun _ _ _ h _ => h, trivial⟩
    case ob =>
      refine ⟨Rg.at_run [2] rfl ?_, ?_⟩
      · intro ρ W hR ⟨q2, _⟩
        replace q2 : ρ 2 = .pointer (some ⟨g, 0, none⟩) := q2
        refine ⟨rfl, ?_⟩
        have c0_ : W.cell? ⟨g, 0, none⟩ = some (.int .u64 s.now) := ((hB.ext hR).cell 0).trans rfl
        have c1_ : W.cell? ⟨g, 1, none⟩ = some (.int .u64 s.count) := ((hB.ext hR).cell 1).trans rfl
        have c2_ : W.cell? ⟨g, 2, none⟩ = some (.slice A s.links.length c0) := ((hB.ext hR).cell 2).trans rfl
        have c3_ : W.cell? ⟨g, 3, none⟩ = some (.slice B s.sess.length d0) := ((hB.ext hR).cell 3).trans rfl
        exact Rg.run_ok (v := .agg #[.int .u64 s.now, .int .u64 s.count, .slice A s.links.length c0, .slice B s.sess.length d0]) (by simp [execOp, Rg.ev, go_sem, q2, c0_, c1_, c2_, c3_]) ⟨rfl, hR, Ext.rfl' _⟩
      refine ⟨Rg.at_run [] rfl ?_, ?_⟩
      · intro ρ W hR _
        refine ⟨rfl, ?_⟩
        refine Rg.enter_fn (args := #[.int .i64 (9)]) rfl (by simp only [List.map_toArray, List.map_cons, List.map_nil, Rg.ev]) (by kernel_rfl) ?_
        refine (rfails_b (9) W).mono ?_
        rintro e_ w9 ⟨rfl, hxx⟩
        exact ⟨_, rfl, rfl, hR.trans' hxx, hxx⟩
      trivial
    case en =>
      intro tm W hR hsz hk
      rw [Rg.fin_eq (ds := [13, 14]) rfl rfl rfl hsz hk]
      have k13 : tm.getD 13 undef = .agg #[.int .u64 s.now, .int .u64 s.count, .slice A s.links.length c0, .slice B s.sess.length d0] := hk 13
      have k14 : tm.getD 14 undef = .agg #[.int .i64 (9), str ([])] := hk 14
      clear hk hsz
      simp only [Rg.putAll, List.setIfInBounds_toArray, List.set_cons_zero, List.set_cons_succ, k13, k14]
      clear k13
      clear k14
      replace hB := hB.ext hR
      replace hR_ := hR_.ext hR
      replace hA := hA.ext hR
      replace hrq := stE.ext hrq hR
      replace hxw := hxw.trans' hR
      have r_0 := (hR_.cell 0).trans rfl
      have r_1 := (hR_.cell 1).trans rfl
      have r_2 := (hR_.cell 2).trans rfl
      have r_3 := (hR_.cell 3).trans rfl
      have rf_0 := hR_.frozen 0
      have rf_1 := hR_.frozen 1
      have rf_2 := hR_.frozen 2
      have rf_3 := hR_.frozen 3
      have ra_0 := (hA.cell 0).trans rfl
      have ra_1 := (hA.cell 1).trans rfl
      have raf_0 := hA.frozen 0
      have raf_1 := hA.frozen 1
      obtain ⟨hF4, hF5, hFr, hFx⟩ := fin_do hR_ hA hxw hgw hrq (e := 9) (tx := [])
      go_wp2
      try simp only [Exit.inBlock, Exit.then]
      refine bodyPost_ret (results_cell_cell rfl _ _ (g + 1 + 1) (g + 1 + 1 + 1) 28 33 #[.int .u64 s.now, .int .u64 s.count, .slice A s.links.length c0, .slice B s.sess.length d0] #[.int .i64 (9), str ([])] (0, 0) (0, 0) _ _ rfl hF4 Try.underlying28 rfl (by kernel_rfl) rfl hF5 Try.underlying33 rfl (by kernel_rfl)) rfl ?_
      exact ⟨s, ⟨9, []⟩, _, _, _, _, hide (by rw [← HRR.out]; unfold lnameW; rw [if_pos HAL.out]), rfl, hFr, hFx⟩
  | true =>
    obtain ⟨ek, hek⟩ : ∃ ek, lmay c s.now = ek := ⟨_, rfl⟩
    have HB1 := hide (fun W => rbound_b s c (.slice A s.links.length c0) (.slice B s.sess.length d0) W)
    rw [hek] at HB1
    have HEK := hide hek
    clear hek
    have b_0 := ((hB).cell 0).trans rfl
    have b_1 := ((hB).cell 1).trans rfl
    have b_2 := ((hB).cell 2).trans rfl
    have b_3 := ((hB).cell 3).trans rfl
    have k_0 := ((hC).cell 0).trans rfl
    have k_1 := ((hC).cell 1).trans rfl
    have k_2 := ((hC).cell 2).trans rfl
    have k_3 := ((hC).cell 3).trans rfl
    have k_4 := ((hC).cell 4).trans rfl
    have k_5 := ((hC).cell 5).trans rfl
    go_wp2_with fail
    refine (HB1.out _).mono ?_
    rintro e W1 ⟨rfl, hxe⟩
    clear b_0 b_1 b_2 b_3 k_0 k_1 k_2 k_3 k_4 k_5
    replace hB := hB.ext hxe
    replace hC := hC.ext hxe
    replace hR_ := hR_.ext hxe
    replace hA := hA.ext hxe
    replace hrq := stE.ext hrq hxe
    replace hxw := hxw.trans' hxe
    clear hxe
    rcases Bool.eq_false_or_eq_true (ek != 0) with h0 | h0
    · have HE0 : Hid (lmay c s.now ≠ 0) := hide (by rw [HEK.out]; simpa using h0)
      go_wp2_with fail
      refine Rg.regionT Try.checked.mixed 73 3 (by kernel_rfl) [
        (fun x_ _ => x_ = .agg #[.int .u64 s.now, .int .u64 s.count, .slice A s.links.length c0, .slice B s.sess.length d0]),
        (fun x_ _ => x_ = .int .i64 ek),
        (fun x_ _ => x_ = .agg #[.int .i64 (ek), str ([])])] (fun W => Ext W1 W) Ext rfl rfl rfl
        ?st ((Ext.rfl' W1).drew') ?ob ?en
      case st => exact ⟨fun _ _ _ h _ => h, fun _ _ _ h _ => h, fun _ _ _ h _ => h, trivial⟩
      case ob =>
        refine ⟨Rg.at_run [2] rfl ?_, ?_⟩
        · intro ρ W hR ⟨q2, _⟩
          replace q2 : ρ 2 = .pointer (some ⟨g, 0, none⟩) := q2
          refine ⟨rfl, ?_⟩
          have c0_ : W.cell? ⟨g, 0, none⟩ = some (.int .u64 s.now) := ((hB.ext hR).cell 0).trans rfl
          have c1_ : W.cell? ⟨g, 1, none⟩ = some (.int .u64 s.count) := ((hB.ext hR).cell 1).trans rfl
          have c2_ : W.cell? ⟨g, 2, none⟩ = some (.slice A s.links.length c0) := ((hB.ext hR).cell 2).trans rfl
          have c3_ : W.cell? ⟨g, 3, none⟩ = some (.slice B s.sess.length d0) := ((hB.ext hR).cell 3).trans rfl
          exact Rg.run_ok (v := .agg #[.int .u64 s.now, .int .u64 s.count, .slice A s.links.length c0, .slice B s.sess.length d0]) (by simp [execOp, Rg.ev, go_sem, q2, c0_, c1_, c2_, c3_]) ⟨rfl, hR, Ext.rfl' _⟩
        refine ⟨Rg.at_run [6] rfl ?_, ?_⟩
        · intro ρ W hR ⟨q6, _⟩
          replace q6 : ρ 6 = .int .i64 ek := q6
          refine ⟨rfl, ?_⟩
          exact Rg.run_ok (v := .int .i64 ek) (by simp [execOp, Rg.ev, go_sem, q6]) ⟨rfl, hR, Ext.rfl' _⟩
        refine ⟨Rg.at_run [21] rfl ?_, ?_⟩
        · intro ρ W hR ⟨q21, _⟩
          replace q21 : ρ 21 = .int .i64 ek := q21
          refine ⟨rfl, ?_⟩
          refine Rg.enter_fn (args := #[.int .i64 (ek)]) rfl (by simp only [List.map_toArray, List.map_cons, List.map_nil, Rg.ev, q21]) (by kernel_rfl) ?_
          refine (rfails_b (ek) W).mono ?_
          rintro e_ w9 ⟨rfl, hxx⟩
          exact ⟨_, rfl, rfl, hR.trans' hxx, hxx⟩
        trivial
      case en =>
        intro tm W hR hsz hk
        rw [Rg.fin_eq (ds := [20, 21, 22]) rfl rfl rfl hsz hk]
        have k20 : tm.getD 20 undef = .agg #[.int .u64 s.now, .int .u64 s.count, .slice A s.links.length c0, .slice B s.sess.length d0] := hk 20
        have k21 : tm.getD 21 undef = .int .i64 ek := hk 21
        have k22 : tm.getD 22 undef = .agg #[.int .i64 (ek), str ([])] := hk 22
        clear hk hsz
        simp only [Rg.putAll, List.setIfInBounds_toArray, List.set_cons_zero, List.set_cons_succ, k20, k21, k22]
        clear k20
        clear k21
        clear k22
        replace hB := hB.ext hR
        replace hR_ := hR_.ext hR
        replace hA := hA.ext hR
        replace hrq := stE.ext hrq hR
        replace hxw := hxw.trans' hR
        have r_0 := (hR_.cell 0).trans rfl
        have r_1 := (hR_.cell 1).trans rfl
        have r_2 := (hR_.cell 2).trans rfl
        have r_3 := (hR_.cell 3).trans rfl
        have rf_0 := hR_.frozen 0
        have rf_1 := hR_.frozen 1
        have rf_2 := hR_.frozen 2
        have rf_3 := hR_.frozen 3
        have ra_0 := (hA.cell 0).trans rfl
        have ra_1 := (hA.cell 1).trans rfl
        have raf_0 := hA.frozen 0
        have raf_1 := hA.frozen 1
        obtain ⟨hF4, hF5, hFr, hFx⟩ := fin_do hR_ hA hxw hgw hrq (e := ek) (tx := [])
        go_wp2
        try simp only [Exit.inBlock, Exit.then]
        refine bodyPost_ret (results_cell_cell rfl _ _ (g + 1 + 1) (g + 1 + 1 + 1) 28 33 #[.int .u64 s.now, .int .u64 s.count, .slice A s.links.length c0, .slice B s.sess.length d0] #[.int .i64 (ek), str ([])] (0, 0) (0, 0) _ _ rfl hF4 Try.underlying28 rfl (by kernel_rfl) rfl hF5 Try.underlying33 rfl (by kernel_rfl)) rfl ?_
        exact ⟨s, ⟨ek, []⟩, _, _, _, _, hide (by rw [← HRR.out]; unfold lnameW; rw [if_neg (by simp [HAL.out]), if_pos HE0.out, HEK.out]), rfl, hFr, hFx⟩
    · have HE0 : Hid (¬ lmay c s.now ≠ 0) := hide (by rw [HEK.out]; simpa using h0)
      obtain ⟨⟨y, is⟩, hf⟩ : ∃ q, rfv s.links c.name = q := ⟨_, rfl⟩
      have HF1 := hide (fun W (hx : Ext w W) => lrfind_b X s A c0 (.slice B s.sess.length d0) c.name W (s3.ext hx) (by omega))
      rw [hf] at HF1
      have HF := hide hf
      clear hf
      have b_0 := ((hB).cell 0).trans rfl
      have b_1 := ((hB).cell 1).trans rfl
      have b_2 := ((hB).cell 2).trans rfl
      have b_3 := ((hB).cell 3).trans rfl
      have k_3 := (hC.cell 3).trans rfl
      go_wp2_with fail
      refine (HF1.out _ hxw).mono ?_
      rintro e W2 ⟨rfl, hxe⟩
      clear b_0 b_1 b_2 b_3 k_3
      replace hB := hB.ext hxe
      replace hC := hC.ext hxe
      replace hR_ := hR_.ext hxe
      replace hA := hA.ext hxe
      replace hrq := stE.ext hrq hxe
      replace hxw := hxw.trans' hxe
      clear hxe
      obtain ⟨gx, hgx⟩ : ∃ g_, W2.heap.size = g_ := ⟨_, rfl⟩
      have hL := Blk.new W2 48 (lcells y).toArray
      rw [hgx] at hL
      have hxe : Ext W2 (W2.alloc (.cells (lcells y).toArray 48)) := (Ext.rfl' _).alloc' _
      replace hB := hB.ext hxe
      replace hC := hC.ext hxe
      replace hR_ := hR_.ext hxe
      replace hA := hA.ext hxe
      replace hrq := stE.ext hrq hxe
      replace hxw := hxw.trans' hxe
      go_upto_region 7 with fail
      try rw [hgx]
      clear hgx hxe
      generalize (W2.alloc (.cells (lcells y).toArray 48)) = W3 at *
      have y_1 := (hL.cell 1).trans rfl
      have y_2 := (hL.cell 2).trans rfl
      have k_4 := (hC.cell 4).trans rfl
      have k_5 := (hC.cell 5).trans rfl
      cases is with
      | true =>
        have HFS : Hid (rfind s.links c.name = some y) := hide (by
          have := HF.out
          unfold rfv at this
          cases h : rfind s.links c.name with
          | none => rw [h] at this; simp at this
          | some z => rw [h] at this; simp at this; rw [this])
        rcases Bool.eq_false_or_eq_true (y.url == c.url) with hu | hu
        · rcases Bool.eq_false_or_eq_true (y.till == c.till) with ht | ht
          · have HO : Hid (lown c y = true) := hide (by unfold lown; simp at hu ht; simp [hu, ht])
            go_wp2_with fail
            clear y_1 y_2 k_4 k_5
            refine Rg.regionT Try.checked.mixed 73 4 (by kernel_rfl) [
              (fun x_ _ => x_ = .agg #[.int .u64 s.now, .int .u64 s.count, .slice A s.links.length c0, .slice B s.sess.length d0]),
              (fun x_ _ => x_ = .pointer (some ⟨(g + 1), 3, none⟩)),
              (fun x_ _ => x_ = str c.name),
              (fun x_ _ => x_ = .agg #[.int .i64 (0), str (c.name)])] (fun W => Ext W3 W) Ext rfl rfl rfl
              ?st ((Ext.rfl' W3).drew') ?ob ?en
            case st => exact ⟨fun _ _ _ h _ => h, fun _ _ _ h _ => h, fun _ _ _ h _ => h, fun _ _ _ h _ => h, trivial⟩
            case ob =>
              refine ⟨Rg.at_run [2] rfl ?_, ?_⟩
              · intro ρ W hR ⟨q2, _⟩
                replace q2 : ρ 2 = .pointer (some ⟨g, 0, none⟩) := q2
                refine ⟨rfl, ?_⟩
                have c0_ : W.cell? ⟨g, 0, none⟩ = some (.int .u64 s.now) := ((hB.ext hR).cell 0).trans rfl
                have c1_ : W.cell? ⟨g, 1, none⟩ = some (.int .u64 s.count) := ((hB.ext hR).cell 1).trans rfl
                have c2_ : W.cell? ⟨g, 2, none⟩ = some (.slice A s.links.length c0) := ((hB.ext hR).cell 2).trans rfl
                have c3_ : W.cell? ⟨g, 3, none⟩ = some (.slice B s.sess.length d0) := ((hB.ext hR).cell 3).trans rfl
                exact Rg.run_ok (v := .agg #[.int .u64 s.now, .int .u64 s.count, .slice A s.links.length c0, .slice B s.sess.length d0]) (by simp [execOp, Rg.ev, go_sem, q2, c0_, c1_, c2_, c3_]) ⟨rfl, hR, Ext.rfl' _⟩
              refine ⟨Rg.at_run [3] rfl ?_, ?_⟩
              · intro ρ W hR ⟨q3, _⟩
                replace q3 : ρ 3 = .pointer (some ⟨(g + 1), 0, none⟩) := q3
                refine ⟨rfl, ?_⟩
                exact Rg.run_ok (v := .pointer (some ⟨(g + 1), 3, none⟩)) (by simp [execOp, Rg.ev, go_sem, q3]) ⟨rfl, hR, Ext.rfl' _⟩
              refine ⟨Rg.at_run [47] rfl ?_, ?_⟩
              · intro ρ W hR ⟨q47, _⟩
                replace q47 : ρ 47 = .pointer (some ⟨(g + 1), 3, none⟩) := q47
                refine ⟨rfl, ?_⟩
                have c3_ : W.cell? ⟨(g + 1), 3, none⟩ = some (str c.name) := ((hC.ext hR).cell 3).trans rfl
                exact Rg.run_ok (v := str c.name) (by simp [execOp, Rg.ev, go_sem, q47, c3_]) ⟨rfl, hR, Ext.rfl' _⟩
              refine ⟨Rg.at_run [48] rfl ?_, ?_⟩
              · intro ρ W hR ⟨q48, _⟩
                replace q48 : ρ 48 = str c.name := q48
                refine ⟨rfl, ?_⟩
                refine Rg.enter_fn (args := #[str (c.name)]) rfl (by simp only [List.map_toArray, List.map_cons, List.map_nil, Rg.ev, q48]) (by kernel_rfl) ?_
                refine (rtold_b (c.name) W).mono ?_
                rintro e_ w9 ⟨rfl, hxx⟩
                exact ⟨_, rfl, rfl, hR.trans' hxx, hxx⟩
              trivial
            case en =>
              intro tm W hR hsz hk
              rw [Rg.fin_eq (ds := [46, 47, 48, 49]) rfl rfl rfl hsz hk]
              have k46 : tm.getD 46 undef = .agg #[.int .u64 s.now, .int .u64 s.count, .slice A s.links.length c0, .slice B s.sess.length d0] := hk 46
              have k47 : tm.getD 47 undef = .pointer (some ⟨(g + 1), 3, none⟩) := hk 47
              have k48 : tm.getD 48 undef = str c.name := hk 48
              have k49 : tm.getD 49 undef = .agg #[.int .i64 (0), str (c.name)] := hk 49
              clear hk hsz
              simp only [Rg.putAll, List.setIfInBounds_toArray, List.set_cons_zero, List.set_cons_succ, k46, k47, k48, k49]
              clear k46
              clear k47
              clear k48
              clear k49
              replace hB := hB.ext hR
              replace hR_ := hR_.ext hR
              replace hA := hA.ext hR
              replace hrq := stE.ext hrq hR
              replace hxw := hxw.trans' hR
              have r_0 := (hR_.cell 0).trans rfl
              have r_1 := (hR_.cell 1).trans rfl
              have r_2 := (hR_.cell 2).trans rfl
              have r_3 := (hR_.cell 3).trans rfl
              have rf_0 := hR_.frozen 0
              have rf_1 := hR_.frozen 1
              have rf_2 := hR_.frozen 2
              have rf_3 := hR_.frozen 3
              have ra_0 := (hA.cell 0).trans rfl
              have ra_1 := (hA.cell 1).trans rfl
              have raf_0 := hA.frozen 0
              have raf_1 := hA.frozen 1
              obtain ⟨hF4, hF5, hFr, hFx⟩ := fin_do hR_ hA hxw hgw hrq (e := 0) (tx := c.name)
              go_wp2
              try simp only [Exit.inBlock, Exit.then]
              refine bodyPost_ret (results_cell_cell rfl _ _ (g + 1 + 1) (g + 1 + 1 + 1) 28 33 #[.int .u64 s.now, .int .u64 s.count, .slice A s.links.length c0, .slice B s.sess.length d0] #[.int .i64 (0), str (c.name)] (0, 0) (0, 0) _ _ rfl hF4 Try.underlying28 rfl (by kernel_rfl) rfl hF5 Try.underlying33 rfl (by kernel_rfl)) rfl ?_
              exact ⟨s, ⟨0, c.name⟩, _, _, _, _, hide (by rw [← HRR.out]; unfold lnameW; rw [if_neg (by simp [HAL.out]), if_neg HE0.out, HFS.out]; simp only; rw [if_pos HO.out]), rfl, hFr, hFx⟩
          · have HO : Hid (lown c y = false) := hide (by unfold lown; simp at ht; simp [ht])
            go_wp2_with fail
            clear y_1 y_2 k_4 k_5
            refine Rg.regionT Try.checked.mixed 73 2 (by kernel_rfl) [
              (fun x_ _ => x_ = .agg #[.int .u64 s.now, .int .u64 s.count, .slice A s.links.length c0, .slice B s.sess.length d0]),
              (fun x_ _ => x_ = .agg #[.int .i64 (11), str ([])])] (fun W => Ext W3 W) Ext rfl rfl rfl
              ?st ((Ext.rfl' W3).drew') ?ob ?en
            case st => exact ⟨fun _ _ _ h _ => h, fun _ _ _ h _ => h, trivial⟩
            case ob =>
              refine ⟨Rg.at_run [2] rfl ?_, ?_⟩
              · intro ρ W hR ⟨q2, _⟩
                replace q2 : ρ 2 = .pointer (some ⟨g, 0, none⟩) := q2
                refine ⟨rfl, ?_⟩
                have c0_ : W.cell? ⟨g, 0, none⟩ = some (.int .u64 s.now) := ((hB.ext hR).cell 0).trans rfl
                have c1_ : W.cell? ⟨g, 1, none⟩ = some (.int .u64 s.count) := ((hB.ext hR).cell 1).trans rfl
                have c2_ : W.cell? ⟨g, 2, none⟩ = some (.slice A s.links.length c0) := ((hB.ext hR).cell 2).trans rfl
                have c3_ : W.cell? ⟨g, 3, none⟩ = some (.slice B s.sess.length d0) := ((hB.ext hR).cell 3).trans rfl
                exact Rg.run_ok (v := .agg #[.int .u64 s.now, .int .u64 s.count, .slice A s.links.length c0, .slice B s.sess.length d0]) (by simp [execOp, Rg.ev, go_sem, q2, c0_, c1_, c2_, c3_]) ⟨rfl, hR, Ext.rfl' _⟩
              refine ⟨Rg.at_run [] rfl ?_, ?_⟩
              · intro ρ W hR _
                refine ⟨rfl, ?_⟩
                refine Rg.enter_fn (args := #[.int .i64 (11)]) rfl (by simp only [List.map_toArray, List.map_cons, List.map_nil, Rg.ev]) (by kernel_rfl) ?_
                refine (rfails_b (11) W).mono ?_
                rintro e_ w9 ⟨rfl, hxx⟩
                exact ⟨_, rfl, rfl, hR.trans' hxx, hxx⟩
              trivial
            case en =>
              intro tm W hR hsz hk
              rw [Rg.fin_eq (ds := [52, 53]) rfl rfl rfl hsz hk]
              have k52 : tm.getD 52 undef = .agg #[.int .u64 s.now, .int .u64 s.count, .slice A s.links.length c0, .slice B s.sess.length d0] := hk 52
              have k53 : tm.getD 53 undef = .agg #[.int .i64 (11), str ([])] := hk 53
              clear hk hsz
              simp only [Rg.putAll, List.setIfInBounds_toArray, List.set_cons_zero, List.set_cons_succ, k52, k53]
              clear k52
              clear k53
              replace hB := hB.ext hR
              replace hR_ := hR_.ext hR
              replace hA := hA.ext hR
              replace hrq := stE.ext hrq hR
              replace hxw := hxw.trans' hR
              have r_0 := (hR_.cell 0).trans rfl
              have r_1 := (hR_.cell 1).trans rfl
              have r_2 := (hR_.cell 2).trans rfl
              have r_3 := (hR_.cell 3).trans rfl
              have rf_0 := hR_.frozen 0
              have rf_1 := hR_.frozen 1
              have rf_2 := hR_.frozen 2
              have rf_3 := hR_.frozen 3
              have ra_0 := (hA.cell 0).trans rfl
              have ra_1 := (hA.cell 1).trans rfl
              have raf_0 := hA.frozen 0
              have raf_1 := hA.frozen 1
              obtain ⟨hF4, hF5, hFr, hFx⟩ := fin_do hR_ hA hxw hgw hrq (e := 11) (tx := [])
              go_wp2
              try simp only [Exit.inBlock, Exit.then]
              refine bodyPost_ret (results_cell_cell rfl _ _ (g + 1 + 1) (g + 1 + 1 + 1) 28 33 #[.int .u64 s.now, .int .u64 s.count, .slice A s.links.length c0, .slice B s.sess.length d0] #[.int .i64 (11), str ([])] (0, 0) (0, 0) _ _ rfl hF4 Try.underlying28 rfl (by kernel_rfl) rfl hF5 Try.underlying33 rfl (by kernel_rfl)) rfl ?_
              exact ⟨s, ⟨11, []⟩, _, _, _, _, hide (by rw [← HRR.out]; unfold lnameW; rw [if_neg (by simp [HAL.out]), if_neg HE0.out, HFS.out]; simp only; rw [if_neg (by simp [HO.out])]), rfl, hFr, hFx⟩
        · have HO : Hid (lown c y = false) := hide (by unfold lown; simp at hu; simp [hu])
          go_wp2_with fail
          clear y_1 y_2 k_4 k_5
          refine Rg.regionT Try.checked.mixed 73 2 (by kernel_rfl) [
            (fun x_ _ => x_ = .agg #[.int .u64 s.now, .int .u64 s.count, .slice A s.links.length c0, .slice B s.sess.length d0]),
            (fun x_ _ => x_ = .agg #[.int .i64 (11), str ([])])] (fun W => Ext W3 W) Ext rfl rfl rfl
            ?st ((Ext.rfl' W3).drew') ?ob ?en
          case st => exact ⟨fun _ _ _ h _ => h, fun _ _ _ h _ => h, trivial⟩
          case ob =>
            refine ⟨Rg.at_run [2] rfl ?_, ?_⟩
            · intro ρ W hR ⟨q2, _⟩
              replace q2 : ρ 2 = .pointer (some ⟨g, 0, none⟩) := q2
              refine ⟨rfl, ?_⟩
              have c0_ : W.cell? ⟨g, 0, none⟩ = some (.int .u64 s.now) := ((hB.ext hR).cell 0).trans rfl
              have c1_ : W.cell? ⟨g, 1, none⟩ = some (.int .u64 s.count) := ((hB.ext hR).cell 1).trans rfl
              have c2_ : W.cell? ⟨g, 2, none⟩ = some (.slice A s.links.length c0) := ((hB.ext hR).cell 2).trans rfl
              have c3_ : W.cell? ⟨g, 3, none⟩ = some (.slice B s.sess.length d0) := ((hB.ext hR).cell 3).trans rfl
              exact Rg.run_ok (v := .agg #[.int .u64 s.now, .int .u64 s.count, .slice A s.links.length c0, .slice B s.sess.length d0]) (by simp [execOp, Rg.ev, go_sem, q2, c0_, c1_, c2_, c3_]) ⟨rfl, hR, Ext.rfl' _⟩
            refine ⟨Rg.at_run [] rfl ?_, ?_⟩
            · intro ρ W hR _
              refine ⟨rfl, ?_⟩
              refine Rg.enter_fn (args := #[.int .i64 (11)]) rfl (by simp only [List.map_toArray, List.map_cons, List.map_nil, Rg.ev]) (by kernel_rfl) ?_
              refine (rfails_b (11) W).mono ?_
              rintro e_ w9 ⟨rfl, hxx⟩
              exact ⟨_, rfl, rfl, hR.trans' hxx, hxx⟩
            trivial
          case en =>
            intro tm W hR hsz hk
            rw [Rg.fin_eq (ds := [52, 53]) rfl rfl rfl hsz hk]
            have k52 : tm.getD 52 undef = .agg #[.int .u64 s.now, .int .u64 s.count, .slice A s.links.length c0, .slice B s.sess.length d0] := hk 52
            have k53 : tm.getD 53 undef = .agg #[.int .i64 (11), str ([])] := hk 53
            clear hk hsz
            simp only [Rg.putAll, List.setIfInBounds_toArray, List.set_cons_zero, List.set_cons_succ, k52, k53]
            clear k52
            clear k53
            replace hB := hB.ext hR
            replace hR_ := hR_.ext hR
            replace hA := hA.ext hR
            replace hrq := stE.ext hrq hR
            replace hxw := hxw.trans' hR
            have r_0 := (hR_.cell 0).trans rfl
            have r_1 := (hR_.cell 1).trans rfl
            have r_2 := (hR_.cell 2).trans rfl
            have r_3 := (hR_.cell 3).trans rfl
            have rf_0 := hR_.frozen 0
            have rf_1 := hR_.frozen 1
            have rf_2 := hR_.frozen 2
            have rf_3 := hR_.frozen 3
            have ra_0 := (hA.cell 0).trans rfl
            have ra_1 := (hA.cell 1).trans rfl
            have raf_0 := hA.frozen 0
            have raf_1 := hA.frozen 1
            obtain ⟨hF4, hF5, hFr, hFx⟩ := fin_do hR_ hA hxw hgw hrq (e := 11) (tx := [])
            go_wp2
            try simp only [Exit.inBlock, Exit.then]
            refine bodyPost_ret (results_cell_cell rfl _ _ (g + 1 + 1) (g + 1 + 1 + 1) 28 33 #[.int .u64 s.now, .int .u64 s.count, .slice A s.links.length c0, .slice B s.sess.length d0] #[.int .i64 (11), str ([])] (0, 0) (0, 0) _ _ rfl hF4 Try.underlying28 rfl (by kernel_rfl) rfl hF5 Try.underlying33 rfl (by kernel_rfl)) rfl ?_
            exact ⟨s, ⟨11, []⟩, _, _, _, _, hide (by rw [← HRR.out]; unfold lnameW; rw [if_neg (by simp [HAL.out]), if_neg HE0.out, HFS.out]; simp only; rw [if_neg (by simp [HO.out])]), rfl, hFr, hFx⟩
      | false =>
        have HFN : Hid (rfind s.links c.name = none) := hide (by
          have := HF.out
          unfold rfv at this
          cases h : rfind s.links c.name with
          | none => rfl
          | some z => rw [h] at this; simp at this)
        have b_2 := (hB.cell 2).trans rfl
        rcases Bool.eq_false_or_eq_true (decide ((40 : Int) ≤ s.links.length)) with hm | hm
        · have HM : Hid (40 ≤ s.links.length) := hide (by have := of_decide_eq_true hm; omega)
          go_wp2_with fail
          clear y_1 y_2 k_4 k_5 b_2
          refine Rg.regionT Try.checked.mixed 73 2 (by kernel_rfl) [
            (fun x_ _ => x_ = .agg #[.int .u64 s.now, .int .u64 s.count, .slice A s.links.length c0, .slice B s.sess.length d0]),
            (fun x_ _ => x_ = .agg #[.int .i64 (12), str ([])])] (fun W => Ext W3 W) Ext rfl rfl rfl
            ?st ((Ext.rfl' W3).drew') ?ob ?en
          case st => exact ⟨fun _ _ _ h _ => h, fun _ _ _ h _ => h, trivial⟩
          case ob =>
            refine ⟨Rg.at_run [2] rfl ?_, ?_⟩
            · intro ρ W hR ⟨q2, _⟩
              replace q2 : ρ 2 = .pointer (some ⟨g, 0, none⟩) := q2
              refine ⟨rfl, ?_⟩
              have c0_ : W.cell? ⟨g, 0, none⟩ = some (.int .u64 s.now) := ((hB.ext hR).cell 0).trans rfl
              have c1_ : W.cell? ⟨g, 1, none⟩ = some (.int .u64 s.count) := ((hB.ext hR).cell 1).trans rfl
              have c2_ : W.cell? ⟨g, 2, none⟩ = some (.slice A s.links.length c0) := ((hB.ext hR).cell 2).trans rfl
              have c3_ : W.cell? ⟨g, 3, none⟩ = some (.slice B s.sess.length d0) := ((hB.ext hR).cell 3).trans rfl
              exact Rg.run_ok (v := .agg #[.int .u64 s.now, .int .u64 s.count, .slice A s.links.length c0, .slice B s.sess.length d0]) (by simp [execOp, Rg.ev, go_sem, q2, c0_, c1_, c2_, c3_]) ⟨rfl, hR, Ext.rfl' _⟩
            refine ⟨Rg.at_run [] rfl ?_, ?_⟩
            · intro ρ W hR _
              refine ⟨rfl, ?_⟩
              refine Rg.enter_fn (args := #[.int .i64 (12)]) rfl (by simp only [List.map_toArray, List.map_cons, List.map_nil, Rg.ev]) (by kernel_rfl) ?_
              refine (rfails_b (12) W).mono ?_
              rintro e_ w9 ⟨rfl, hxx⟩
              exact ⟨_, rfl, rfl, hR.trans' hxx, hxx⟩
            trivial
          case en =>
            intro tm W hR hsz hk
            rw [Rg.fin_eq (ds := [59, 60]) rfl rfl rfl hsz hk]
            have k59 : tm.getD 59 undef = .agg #[.int .u64 s.now, .int .u64 s.count, .slice A s.links.length c0, .slice B s.sess.length d0] := hk 59
            have k60 : tm.getD 60 undef = .agg #[.int .i64 (12), str ([])] := hk 60
            clear hk hsz
            simp only [Rg.putAll, List.setIfInBounds_toArray, List.set_cons_zero, List.set_cons_succ, k59, k60]
            clear k59
            clear k60
            replace hB := hB.ext hR
            replace hR_ := hR_.ext hR
            replace hA := hA.ext hR
            replace hrq := stE.ext hrq hR
            replace hxw := hxw.trans' hR
            have r_0 := (hR_.cell 0).trans rfl
            have r_1 := (hR_.cell 1).trans rfl
            have r_2 := (hR_.cell 2).trans rfl
            have r_3 := (hR_.cell 3).trans rfl
            have rf_0 := hR_.frozen 0
            have rf_1 := hR_.frozen 1
            have rf_2 := hR_.frozen 2
            have rf_3 := hR_.frozen 3
            have ra_0 := (hA.cell 0).trans rfl
            have ra_1 := (hA.cell 1).trans rfl
            have raf_0 := hA.frozen 0
            have raf_1 := hA.frozen 1
            obtain ⟨hF4, hF5, hFr, hFx⟩ := fin_do hR_ hA hxw hgw hrq (e := 12) (tx := [])
            go_wp2
            try simp only [Exit.inBlock, Exit.then]
            refine bodyPost_ret (results_cell_cell rfl _ _ (g + 1 + 1) (g + 1 + 1 + 1) 28 33 #[.int .u64 s.now, .int .u64 s.count, .slice A s.links.length c0, .slice B s.sess.length d0] #[.int .i64 (12), str ([])] (0, 0) (0, 0) _ _ rfl hF4 Try.underlying28 rfl (by kernel_rfl) rfl hF5 Try.underlying33 rfl (by kernel_rfl)) rfl ?_
            exact ⟨s, ⟨12, []⟩, _, _, _, _, hide (by rw [← HRR.out]; unfold lnameW; rw [if_neg (by simp [HAL.out]), if_neg HE0.out, HFN.out]; simp only; rw [if_pos HM.out]), rfl, hFr, hFx⟩
        · have HM : Hid (¬ 40 ≤ s.links.length) := hide (by have := of_decide_eq_false hm; omega)
          obtain ⟨lk, hlk⟩ : ∃ l, l = lkput s.links ⟨c.name, c.url, c.till, false⟩ := ⟨_, rfl⟩
          have HLK := hide hlk
          clear hlk
          have HPUT := hide (fun W (hR : Ext W3 W) => lrput_b (XQ X g) s A c0 B d0 ⟨c.name, c.url, c.till, false⟩ W (fun k hk => Nat.lt_of_lt_of_le (hk.elim (fun h => by have := hXl k h; have := hA.lt; omega) fun h => by have := hA.lt; omega) hR.size) (stE.ext hrq hR) hc.n1 hc.u1 ⟨hc.t0, hc.t1⟩ (by omega))
          go_wp2_with fail
          clear y_1 y_2 k_4 k_5 b_2
          refine Rg.regionT Try.checked.mixed 73 12 (by kernel_rfl) [
            (fun x_ _ => x_ = .agg #[.int .u64 s.now, .int .u64 s.count, .slice A s.links.length c0, .slice B s.sess.length d0]),
            (fun x_ _ => x_ = .pointer (some ⟨(g + 1), 3, none⟩)),
            (fun x_ _ => x_ = str c.name),
            (fun x_ _ => x_ = .pointer (some ⟨(g + 1), 4, none⟩)),
            (fun x_ _ => x_ = str c.url),
            (fun x_ _ => x_ = .pointer (some ⟨(g + 1), 5, none⟩)),
            (fun x_ _ => x_ = .int .u64 c.till),
            (fun x_ _ => x_ = .agg #[str c.name, str c.url, .int .u64 c.till, .bool false]),
            (fun v W => ∃ A1 c1, v = .agg #[.int .u64 s.now, .int .u64 s.count, .slice A1 lk.length c1, .slice B s.sess.length d0] ∧ stE.rep W (XQ X g) [.int .u64 s.now, .int .u64 s.count, .slice A1 lk.length c1, .slice B s.sess.length d0] ⟨s.now, s.count, lk, s.sess⟩),
            (fun x_ _ => x_ = .pointer (some ⟨(g + 1), 3, none⟩)),
            (fun x_ _ => x_ = str c.name),
            (fun x_ _ => x_ = .agg #[.int .i64 0, str c.name])] (fun W => Ext W3 W) Ext rfl rfl rfl
            ?st ((Ext.rfl' W3).drew') ?ob ?en
          case st => exact ⟨fun _ _ _ h _ => h, fun _ _ _ h _ => h, fun _ _ _ h _ => h, fun _ _ _ h _ => h, fun _ _ _ h _ => h, fun _ _ _ h _ => h, fun _ _ _ h _ => h, fun _ _ _ h _ => h, fun _ _ _ ⟨a1_, a2_, h1_, h2_⟩ hx => ⟨a1_, a2_, h1_, stE.ext h2_ hx⟩, fun _ _ _ h _ => h, fun _ _ _ h _ => h, fun _ _ _ h _ => h, trivial⟩
          case ob =>
            refine ⟨Rg.at_run [2] rfl ?_, ?_⟩
            · intro ρ W hR ⟨q2, _⟩
              replace q2 : ρ 2 = .pointer (some ⟨g, 0, none⟩) := q2
              refine ⟨rfl, ?_⟩
              have c0_ : W.cell? ⟨g, 0, none⟩ = some (.int .u64 s.now) := ((hB.ext hR).cell 0).trans rfl
              have c1_ : W.cell? ⟨g, 1, none⟩ = some (.int .u64 s.count) := ((hB.ext hR).cell 1).trans rfl
              have c2_ : W.cell? ⟨g, 2, none⟩ = some (.slice A s.links.length c0) := ((hB.ext hR).cell 2).trans rfl
              have c3_ : W.cell? ⟨g, 3, none⟩ = some (.slice B s.sess.length d0) := ((hB.ext hR).cell 3).trans rfl
              exact Rg.run_ok (v := .agg #[.int .u64 s.now, .int .u64 s.count, .slice A s.links.length c0, .slice B s.sess.length d0]) (by simp [execOp, Rg.ev, go_sem, q2, c0_, c1_, c2_, c3_]) ⟨rfl, hR, Ext.rfl' _⟩
            refine ⟨Rg.at_run [3] rfl ?_, ?_⟩
            · intro ρ W hR ⟨q3, _⟩
              replace q3 : ρ 3 = .pointer (some ⟨(g + 1), 0, none⟩) := q3
              refine ⟨rfl, ?_⟩
              exact Rg.run_ok (v := .pointer (some ⟨(g + 1), 3, none⟩)) (by simp [execOp, Rg.ev, go_sem, q3]) ⟨rfl, hR, Ext.rfl' _⟩
            refine ⟨Rg.at_run [62] rfl ?_, ?_⟩
            · intro ρ W hR ⟨q62, _⟩
              replace q62 : ρ 62 = .pointer (some ⟨(g + 1), 3, none⟩) := q62
              refine ⟨rfl, ?_⟩
              have c3_ : W.cell? ⟨(g + 1), 3, none⟩ = some (str c.name) := ((hC.ext hR).cell 3).trans rfl
              exact Rg.run_ok (v := str c.name) (by simp [execOp, Rg.ev, go_sem, q62, c3_]) ⟨rfl, hR, Ext.rfl' _⟩
            refine ⟨Rg.at_run [3] rfl ?_, ?_⟩
            · intro ρ W hR ⟨q3, _⟩
              replace q3 : ρ 3 = .pointer (some ⟨(g + 1), 0, none⟩) := q3
              refine ⟨rfl, ?_⟩
              exact Rg.run_ok (v := .pointer (some ⟨(g + 1), 4, none⟩)) (by simp [execOp, Rg.ev, go_sem, q3]) ⟨rfl, hR, Ext.rfl' _⟩
            refine ⟨Rg.at_run [64] rfl ?_, ?_⟩
            · intro ρ W hR ⟨q64, _⟩
              replace q64 : ρ 64 = .pointer (some ⟨(g + 1), 4, none⟩) := q64
              refine ⟨rfl, ?_⟩
              have c4_ : W.cell? ⟨(g + 1), 4, none⟩ = some (str c.url) := ((hC.ext hR).cell 4).trans rfl
              exact Rg.run_ok (v := str c.url) (by simp [execOp, Rg.ev, go_sem, q64, c4_]) ⟨rfl, hR, Ext.rfl' _⟩
            refine ⟨Rg.at_run [3] rfl ?_, ?_⟩
            · intro ρ W hR ⟨q3, _⟩
              replace q3 : ρ 3 = .pointer (some ⟨(g + 1), 0, none⟩) := q3
              refine ⟨rfl, ?_⟩
              exact Rg.run_ok (v := .pointer (some ⟨(g + 1), 5, none⟩)) (by simp [execOp, Rg.ev, go_sem, q3]) ⟨rfl, hR, Ext.rfl' _⟩
            refine ⟨Rg.at_run [66] rfl ?_, ?_⟩
            · intro ρ W hR ⟨q66, _⟩
              replace q66 : ρ 66 = .pointer (some ⟨(g + 1), 5, none⟩) := q66
              refine ⟨rfl, ?_⟩
              have c5_ : W.cell? ⟨(g + 1), 5, none⟩ = some (.int .u64 c.till) := ((hC.ext hR).cell 5).trans rfl
              exact Rg.run_ok (v := .int .u64 c.till) (by simp [execOp, Rg.ev, go_sem, q66, c5_]) ⟨rfl, hR, Ext.rfl' _⟩
            refine ⟨Rg.at_run [63, 65, 67] rfl ?_, ?_⟩
            · intro ρ W hR ⟨q63, q65, q67, _⟩
              replace q63 : ρ 63 = str c.name := q63
              replace q65 : ρ 65 = str c.url := q65
              replace q67 : ρ 67 = .int .u64 c.till := q67
              refine ⟨rfl, ?_⟩
              exact Rg.run_ok (v := .agg #[str c.name, str c.url, .int .u64 c.till, .bool false]) (by simp [execOp, Rg.ev, go_sem, q63, q65, q67]) ⟨rfl, hR, Ext.rfl' _⟩
            refine ⟨Rg.at_run [61, 68] rfl ?_, ?_⟩
            · intro ρ W hR ⟨q61, q68, _⟩
              replace q61 : ρ 61 = .agg #[.int .u64 s.now, .int .u64 s.count, .slice A s.links.length c0, .slice B s.sess.length d0] := q61
              replace q68 : ρ 68 = .agg #[str c.name, str c.url, .int .u64 c.till, .bool false] := q68
              refine ⟨rfl, ?_⟩
              refine Rg.enter_fn (args := #[.agg #[.int .u64 s.now, .int .u64 s.count, .slice A s.links.length c0, .slice B s.sess.length d0], .agg #[str c.name, str c.url, .int .u64 c.till, .bool false]]) rfl (by simp only [List.map_toArray, List.map_cons, List.map_nil, Rg.ev, q61, q68]) (by kernel_rfl) ?_
              refine (HPUT.out W hR).mono ?_
              rintro e_ w9 ⟨l_, A1, c1, hl_, rfl, hr_, hxx⟩
              obtain rfl : l_ = lk := hl_.out.trans HLK.out.symm
              exact ⟨_, rfl, ⟨A1, c1, rfl, hr_⟩, hR.trans' hxx, hxx⟩
            refine ⟨Rg.at_run [3] rfl ?_, ?_⟩
            · intro ρ W hR ⟨q3, _⟩
              replace q3 : ρ 3 = .pointer (some ⟨(g + 1), 0, none⟩) := q3
              refine ⟨rfl, ?_⟩
              exact Rg.run_ok (v := .pointer (some ⟨(g + 1), 3, none⟩)) (by simp [execOp, Rg.ev, go_sem, q3]) ⟨rfl, hR, Ext.rfl' _⟩
            refine ⟨Rg.at_run [70] rfl ?_, ?_⟩
            · intro ρ W hR ⟨q70, _⟩
              replace q70 : ρ 70 = .pointer (some ⟨(g + 1), 3, none⟩) := q70
              refine ⟨rfl, ?_⟩
              have c3_ : W.cell? ⟨(g + 1), 3, none⟩ = some (str c.name) := ((hC.ext hR).cell 3).trans rfl
              exact Rg.run_ok (v := str c.name) (by simp [execOp, Rg.ev, go_sem, q70, c3_]) ⟨rfl, hR, Ext.rfl' _⟩
            refine ⟨Rg.at_run [71] rfl ?_, ?_⟩
            · intro ρ W hR ⟨q71, _⟩
              replace q71 : ρ 71 = str c.name := q71
              refine ⟨rfl, ?_⟩
              refine Rg.enter_fn (args := #[str c.name]) rfl (by simp only [List.map_toArray, List.map_cons, List.map_nil, Rg.ev, q71]) (by kernel_rfl) ?_
              refine (rtold_b c.name W).mono ?_
              rintro e_ w9 ⟨rfl, hxx⟩
              exact ⟨_, rfl, rfl, hR.trans' hxx, hxx⟩
            trivial
          case en =>
            intro tm W hR hsz hk
            rw [Rg.fin_eq (ds := [61, 62, 63, 64, 65, 66, 67, 68, 69, 70, 71, 72]) rfl rfl rfl hsz hk]
            have k61 : tm.getD 61 undef = .agg #[.int .u64 s.now, .int .u64 s.count, .slice A s.links.length c0, .slice B s.sess.length d0] := hk 61
            have k62 : tm.getD 62 undef = .pointer (some ⟨(g + 1), 3, none⟩) := hk 62
            have k63 : tm.getD 63 undef = str c.name := hk 63
            have k64 : tm.getD 64 undef = .pointer (some ⟨(g + 1), 4, none⟩) := hk 64
            have k65 : tm.getD 65 undef = str c.url := hk 65
            have k66 : tm.getD 66 undef = .pointer (some ⟨(g + 1), 5, none⟩) := hk 66
            have k67 : tm.getD 67 undef = .int .u64 c.till := hk 67
            have k68 : tm.getD 68 undef = .agg #[str c.name, str c.url, .int .u64 c.till, .bool false] := hk 68
            have k69 : (fun v W => ∃ A1 c1, v = .agg #[.int .u64 s.now, .int .u64 s.count, .slice A1 lk.length c1, .slice B s.sess.length d0] ∧ stE.rep W (XQ X g) [.int .u64 s.now, .int .u64 s.count, .slice A1 lk.length c1, .slice B s.sess.length d0] ⟨s.now, s.count, lk, s.sess⟩) (tm.getD 69 undef) W := hk 69
            have k70 : tm.getD 70 undef = .pointer (some ⟨(g + 1), 3, none⟩) := hk 70
            have k71 : tm.getD 71 undef = str c.name := hk 71
            have k72 : tm.getD 72 undef = .agg #[.int .i64 0, str c.name] := hk 72
            clear hk hsz
            simp only [Rg.putAll, List.setIfInBounds_toArray, List.set_cons_zero, List.set_cons_succ, k61, k62, k63, k64, k65, k66, k67, k68, k70, k71, k72]
            clear k61
            clear k62
            clear k63
            clear k64
            clear k65
            clear k66
            clear k67
            clear k68
            generalize tm.getD 69 undef = u69 at *
            clear k70
            clear k71
            clear k72
            obtain ⟨A1, c1, rfl, hrp⟩ := k69
            replace hB := hB.ext hR
            replace hR_ := hR_.ext hR
            replace hA := hA.ext hR
            replace hxw := hxw.trans' hR
            have r_0 := (hR_.cell 0).trans rfl
            have r_1 := (hR_.cell 1).trans rfl
            have r_2 := (hR_.cell 2).trans rfl
            have r_3 := (hR_.cell 3).trans rfl
            have rf_0 := hR_.frozen 0
            have rf_1 := hR_.frozen 1
            have rf_2 := hR_.frozen 2
            have rf_3 := hR_.frozen 3
            have ra_0 := (hA.cell 0).trans rfl
            have ra_1 := (hA.cell 1).trans rfl
            have raf_0 := hA.frozen 0
            have raf_1 := hA.frozen 1
            obtain ⟨hF4, hF5, hFr, hFx⟩ := fin_do hR_ hA hxw hgw hrp (e := 0) (tx := c.name)
            go_wp2
            try simp only [Exit.inBlock, Exit.then]
            refine bodyPost_ret (results_cell_cell rfl _ _ (g + 1 + 1) (g + 1 + 1 + 1) 28 33 #[.int .u64 s.now, .int .u64 s.count, .slice A1 lk.length c1, .slice B s.sess.length d0] #[.int .i64 (0), str (c.name)] (0, 0) (0, 0) _ _ rfl hF4 Try.underlying28 rfl (by kernel_rfl) rfl hF5 Try.underlying33 rfl (by kernel_rfl)) rfl ?_
            exact ⟨⟨s.now, s.count, lk, s.sess⟩, ⟨0, c.name⟩, _, _, _, _, hide (by rw [← HRR.out]; unfold lnameW; rw [if_neg (by simp [HAL.out]), if_neg HE0.out, HFN.out]; simp only; rw [if_neg HM.out, HLK.out]), rfl, hFr, hFx⟩
end Go.Proofs.Ytggfemdgccgbpaa

/- The document's links: making. -/
namespace Go.Proofs.Ytggfemdgccgbpaa
set_option linter.unusedVariables false
set_option linter.unusedSimpArgs false
set_option linter.unnecessarySimpa false
set_option maxRecDepth 100000
open Go.RowKit
set_option maxHeartbeats 12800000 in
theorem lrmake_b (X : Avoid) (s : St) (A : Option Addr) (c0 : Nat) (B : Option Addr) (d0 : Nat) (c : Cm) (w : World) (hX : ∀ k, X k → k < w.heap.size) (hs : stE.rep w X [.int .u64 s.now, .int .u64 s.count, .slice A s.links.length c0, .slice B s.sess.length d0] s) (hc : c.wide) (hcn : c.name.length ≤ 1000000) (hll : s.links.length ≤ 1000) :
    Calls Try.prog 30 #[.agg #[.int .u64 s.now, .int .u64 s.count, .slice A s.links.length c0, .slice B s.sess.length d0], cv c] w fun e w' => RetDo X w w' e (lmakeW lkput s c) := by
  obtain ⟨vl, vs, hcs, s1, s2, s3, s4⟩ := st_rep.1 hs
  simp only [List.cons.injEq, and_true, true_and] at hcs
  obtain ⟨rfl, rfl⟩ := hcs
  obtain ⟨hB, hC, hR_, hA, hxw⟩ := four_al w 28 37 28 33 #[.int .u64 s.now, .int .u64 s.count, .slice A s.links.length c0, .slice B s.sess.length d0] (ccells c) #[.int .u64 0, .int .u64 0, .slice none 0 0, .slice none 0 0] #[.int .i64 0, str []]
  obtain ⟨g, hg⟩ : ∃ g, w.heap.size = g := ⟨_, rfl⟩
  rw [hg] at hB hC hR_ hA
  have hgw : w.heap.size ≤ g := by omega
  have hXl : ∀ k, X k → k < g := fun k hk => by rw [← hg]; exact hX k hk
  have hrq := stE.ext (stE.mono hs (Y := XQ X g) fun k hk h => h.elim id fun h => by omega) hxw
  obtain ⟨r, hr⟩ : ∃ r, lmakeW lkput s c = r := ⟨_, rfl⟩
  rw [hr]
  have HRR := hide hr
  clear hr
  go_enter Try.func30, Try.ntmps30
  go_upto_region 1 with fail
  generalize ((((w.alloc (.cells #[.int .u64 s.now, .int .u64 s.count, .slice A s.links.length c0, .slice B s.sess.length d0] 28)).alloc (.cells (ccells c) 37)).alloc (.cells #[.int .u64 0, .int .u64 0, .slice none 0 0, .slice none 0 0] 28)).alloc (.cells #[.int .i64 0, str []] 33)) = w1 at *
  try rw [hg]
  obtain ⟨ek, hek⟩ : ∃ ek, lmay c s.now = ek := ⟨_, rfl⟩
  have HB1 := hide (fun W => rbound_b s c (.slice A s.links.length c0) (.slice B s.sess.length d0) W)
  rw [hek] at HB1
  have HEK := hide hek
  clear hek
  have b_0 := ((hB).cell 0).trans rfl
  have b_1 := ((hB).cell 1).trans rfl
  have b_2 := ((hB).cell 2).trans rfl
  have b_3 := ((hB).cell 3).trans rfl
  have k_0 := ((hC).cell 0).trans rfl
  have k_1 := ((hC).cell 1).trans rfl
  have k_2 := ((hC).cell 2).trans rfl
  have k_3 := ((hC).cell 3).trans rfl
  have k_4 := ((hC).cell 4).trans rfl
  have k_5 := ((hC).cell 5).trans rfl
  go_wp2_with fail
  refine (HB1.out _).mono ?_
  rintro e W1 ⟨rfl, hxe⟩
  clear b_0 b_1 b_2 b_3 k_0 k_1 k_2 k_3 k_4 k_5
  replace hB := hB.ext hxe
  replace hC := hC.ext hxe
  replace hR_ := hR_.ext hxe
  replace hA := hA.ext hxe
  replace hrq := stE.ext hrq hxe
  replace hxw := hxw.trans' hxe
  clear hxe
  rcases Bool.eq_false_or_eq_true (ek != 0) with h0 | h0
  · have HE0 : Hid (lmay c s.now ≠ 0) := hide (by rw [HEK.out]; simpa using h0)
    go_wp2_with fail
    refine Rg.regionT Try.checked.mixed 81 3 (by kernel_rfl) [
      (fun x_ _ => x_ = .agg #[.int .u64 s.now, .int .u64 s.count, .slice A s.links.length c0, .slice B s.sess.length d0]),
      (fun x_ _ => x_ = .int .i64 ek),
      (fun x_ _ => x_ = .agg #[.int .i64 (ek), str ([])])] (fun W => Ext W1 W) Ext rfl rfl rfl
      ?st ((Ext.rfl' W1).drew') ?ob ?en
    case st => exact ⟨fun _ _ _ h _ => h, fun _ _ _ h _ => h, fun _ _ _ h _ => h, trivial⟩
    case ob =>
      refine ⟨Rg.at_run [2] rfl ?_, ?_⟩
      · intro ρ W hR ⟨q2, _⟩
        replace q2 : ρ 2 = .pointer (some ⟨g, 0, none⟩) := q2
        refine ⟨rfl, ?_⟩
        have c0_ : W.cell? ⟨g, 0, none⟩ = some (.int .u64 s.now) := ((hB.ext hR).cell 0).trans rfl
        have c1_ : W.cell? ⟨g, 1, none⟩ = some (.int .u64 s.count) := ((hB.ext hR).cell 1).trans rfl
        have c2_ : W.cell? ⟨g, 2, none⟩ = some (.slice A s.links.length c0) := ((hB.ext hR).cell 2).trans rfl
        have c3_ : W.cell? ⟨g, 3, none⟩ = some (.slice B s.sess.length d0) := ((hB.ext hR).cell 3).trans rfl
        exact Rg.run_ok (v := .agg #[.int .u64 s.now, .int .u64 s.count, .slice A s.links.length c0, .slice B s.sess.length d0]) (by simp [execOp, Rg.ev, go_sem, q2, c0_, c1_, c2_, c3_]) ⟨rfl, hR, Ext.rfl' _⟩
      refine ⟨Rg.at_run [6] rfl ?_, ?_⟩
      · intro ρ W hR ⟨q6, _⟩
        replace q6 : ρ 6 = .int .i64 ek := q6
        refine ⟨rfl, ?_⟩
        exact Rg.run_ok (v := .int .i64 ek) (by simp [execOp, Rg.ev, go_sem, q6]) ⟨rfl, hR, Ext.rfl' _⟩
      refine ⟨Rg.at_run [16] rfl ?_, ?_⟩
      · intro ρ W hR ⟨q16, _⟩
        replace q16 : ρ 16 = .int .i64 ek := q16
        refine ⟨rfl, ?_⟩
        refine Rg.enter_fn (args := #[.int .i64 (ek)]) rfl (by simp only [List.map_toArray, List.map_cons, List.map_nil, Rg.ev, q16]) (by kernel_rfl) ?_
        refine (rfails_b (ek) W).mono ?_
        rintro e_ w9 ⟨rfl, hxx⟩
        exact ⟨_, rfl, rfl, hR.trans' hxx, hxx⟩
      trivial
    case en =>
      intro tm W hR hsz hk
      rw [Rg.fin_eq (ds := [15, 16, 17]) rfl rfl rfl hsz hk]
      have k15 : tm.getD 15 undef = .agg #[.int .u64 s.now, .int .u64 s.count, .slice A s.links.length c0, .slice B s.sess.length d0] := hk 15
      have k16 : tm.getD 16 undef = .int .i64 ek := hk 16
      have k17 : tm.getD 17 undef = .agg #[.int .i64 (ek), str ([])] := hk 17
      clear hk hsz
      simp only [Rg.putAll, List.setIfInBounds_toArray, List.set_cons_zero, List.set_cons_succ, k15, k16, k17]
      clear k15
      clear k16
      clear k17
      replace hB := hB.ext hR
      replace hR_ := hR_.ext hR
      replace hA := hA.ext hR
      replace hrq := stE.ext hrq hR
      replace hxw := hxw.trans' hR
      have r_0 := (hR_.cell 0).trans rfl
      have r_1 := (hR_.cell 1).trans rfl
      have r_2 := (hR_.cell 2).trans rfl
      have r_3 := (hR_.cell 3).trans rfl
      have rf_0 := hR_.frozen 0
      have rf_1 := hR_.frozen 1
      have rf_2 := hR_.frozen 2
      have rf_3 := hR_.frozen 3
      have ra_0 := (hA.cell 0).trans rfl
      have ra_1 := (hA.cell 1).trans rfl
      have raf_0 := hA.frozen 0
      have raf_1 := hA.frozen 1
      obtain ⟨hF4, hF5, hFr, hFx⟩ := fin_do hR_ hA hxw hgw hrq (e := ek) (tx := [])
      go_wp2
      try simp only [Exit.inBlock, Exit.then]
      refine bodyPost_ret (results_cell_cell rfl _ _ (g + 1 + 1) (g + 1 + 1 + 1) 28 33 #[.int .u64 s.now, .int .u64 s.count, .slice A s.links.length c0, .slice B s.sess.length d0] #[.int .i64 (ek), str ([])] (0, 0) (0, 0) _ _ rfl hF4 Try.underlying28 rfl (by kernel_rfl) rfl hF5 Try.underlying33 rfl (by kernel_rfl)) rfl ?_
      exact ⟨s, ⟨ek, []⟩, _, _, _, _, hide (by rw [← HRR.out]; unfold lmakeW; rw [if_pos HE0.out, HEK.out]), rfl, hFr, hFx⟩
  · have HE0 : Hid (¬ lmay c s.now ≠ 0) := hide (by rw [HEK.out]; simpa using h0)
    go_wp2_with fail
    go_loopw [7] (fun i wr => ∃ k : Nat, k ≤ s.links.length ∧ i = .int .i64 k ∧ Hid (∀ (j : Nat) (y : Ln), j < k → s.links[j]? = some y → (y.made && lown c y) = false) ∧ Ext W1 wr) (fun i _ => (s.links.length - intOf i).toNat)
    case atStart => exact ⟨0, by omega, rfl, hide (fun j y h => by omega), Ext.rfl' _⟩
    case round =>
      obtain ⟨k, hk, rfl, hno, hxr⟩ := hrel
      have hxr0 := hxr
      replace hB := hB.ext hxr
      replace hC := hC.ext hxr
      replace hR_ := hR_.ext hxr
      replace hA := hA.ext hxr
      replace hrq := stE.ext hrq hxr
      replace hxw := hxw.trans' hxr
      clear hxr
      have hk0 : (0 : Int) ≤ k := by omega
      have b_2 := (hB.cell 2).trans rfl
      by_cases hlt : (k : Int) < s.links.length
      · obtain ⟨ad, y, rfl, hyk, hbp, p0, p1, p2, p3, -⟩ := ln_at (s3.ext hxw) (k := k) (by omega)
        obtain ⟨gx, hgx⟩ : ∃ g_, wr.heap.size = g_ := ⟨_, rfl⟩
        have hL := Blk.new wr 48 (lcells y).toArray
        rw [hgx] at hL
        have hxe : Ext wr (wr.alloc (.cells (lcells y).toArray 48)) := (Ext.rfl' _).alloc' _
        replace hxr0 := hxr0.trans' hxe
        have HNEXT : ((y.made && lown c y) = false) → Hid (∀ (j : Nat) (z : Ln), j < k + 1 → s.links[j]? = some z → (z.made && lown c z) = false) := fun hf => hide (fun j z hj hz => by
          rcases Nat.lt_or_ge j k with h | h
          · exact hno.out j z h hz
          · obtain rfl : j = k := by omega
            obtain rfl := Option.some.inj (hz.symm.trans hyk.out)
            exact hf)
        replace hB := hB.ext hxe
        replace hC := hC.ext hxe
        replace hR_ := hR_.ext hxe
        replace hA := hA.ext hxe
        replace hrq := stE.ext hrq hxe
        replace hxw := hxw.trans' hxe
        go_upto_region 8 with fail
        try rw [hgx]
        clear hgx hxe b_2 p0 p1 p2 p3
        generalize (wr.alloc (.cells (lcells y).toArray 48)) = W3 at *
        have y_1 := (hL.cell 1).trans rfl
        have y_2 := (hL.cell 2).trans rfl
        have y_3 : W3.cell? ⟨gx, 3, none⟩ = some (.bool y.made) := (hL.cell 3).trans rfl
        have k_4 := (hC.cell 4).trans rfl
        have k_5 := (hC.cell 5).trans rfl
        have HYK := hide hyk.out
        rcases Bool.eq_false_or_eq_true y.made with hm | hm
        · rw [hm] at y_3
          have HM := hide hm
          clear hm
          rcases Bool.eq_false_or_eq_true (y.url == c.url) with hu | hu
          · rcases Bool.eq_false_or_eq_true (y.till == c.till) with ht | ht
            · have HO : Hid ((y.made && lown c y) = true) := hide (by unfold lown; simp at hu ht; simp [HM.out, hu, ht])
              clear HNEXT
              go_wp2_with fail
              clear y_1 y_2 y_3 k_4 k_5
              have HFS : Hid (s.links.find? (fun x => x.made && lown c x) = some y) := hide (by
                rw [List.find?_eq_some_iff_getElem]
                obtain ⟨h4, h5⟩ := List.getElem?_eq_some_iff.1 HYK.out
                refine ⟨HO.out, k, h4, h5, fun j hj => ?_⟩
                have := hno.out j _ hj (List.getElem?_eq_getElem (by omega))
                simp [this])
              refine Rg.regionT Try.checked.mixed 81 4 (by kernel_rfl) [
                (fun x_ _ => x_ = .agg #[.int .u64 s.now, .int .u64 s.count, .slice (some ad) s.links.length c0, .slice B s.sess.length d0]),
                (fun x_ _ => x_ = .pointer (some ⟨gx, 0, none⟩)),
                (fun x_ _ => x_ = str y.name),
                (fun x_ _ => x_ = .agg #[.int .i64 (0), str (y.name)])] (fun W => Ext W3 W) Ext rfl rfl rfl
                ?st ((Ext.rfl' W3).drew') ?ob ?en
              case st => exact ⟨fun _ _ _ h _ => h, fun _ _ _ h _ => h, fun _ _ _ h _ => h, fun _ _ _ h _ => h, trivial⟩
              case ob =>
                refine ⟨Rg.at_run [2] rfl ?_, ?_⟩
                · intro ρ W hR ⟨q2, _⟩
                  replace q2 : ρ 2 = .pointer (some ⟨g, 0, none⟩) := q2
                  refine ⟨rfl, ?_⟩
                  have c0_ : W.cell? ⟨g, 0, none⟩ = some (.int .u64 s.now) := ((hB.ext hR).cell 0).trans rfl
                  have c1_ : W.cell? ⟨g, 1, none⟩ = some (.int .u64 s.count) := ((hB.ext hR).cell 1).trans rfl
                  have c2_ : W.cell? ⟨g, 2, none⟩ = some (.slice (some ad) s.links.length c0) := ((hB.ext hR).cell 2).trans rfl
                  have c3_ : W.cell? ⟨g, 3, none⟩ = some (.slice B s.sess.length d0) := ((hB.ext hR).cell 3).trans rfl
                  exact Rg.run_ok (v := .agg #[.int .u64 s.now, .int .u64 s.count, .slice (some ad) s.links.length c0, .slice B s.sess.length d0]) (by simp [execOp, Rg.ev, go_sem, q2, c0_, c1_, c2_, c3_]) ⟨rfl, hR, Ext.rfl' _⟩
                refine ⟨Rg.at_run [8] rfl ?_, ?_⟩
                · intro ρ W hR ⟨q8, _⟩
                  replace q8 : ρ 8 = .pointer (some ⟨gx, 0, none⟩) := q8
                  refine ⟨rfl, ?_⟩
                  exact Rg.run_ok (v := .pointer (some ⟨gx, 0, none⟩)) (by simp [execOp, Rg.ev, go_sem, q8]) ⟨rfl, hR, Ext.rfl' _⟩
                refine ⟨Rg.at_run [47] rfl ?_, ?_⟩
                · intro ρ W hR ⟨q47, _⟩
                  replace q47 : ρ 47 = .pointer (some ⟨gx, 0, none⟩) := q47
                  refine ⟨rfl, ?_⟩
                  have c0_ : W.cell? ⟨gx, 0, none⟩ = some (str y.name) := ((hL.ext hR).cell 0).trans rfl
                  exact Rg.run_ok (v := str y.name) (by simp [execOp, Rg.ev, go_sem, q47, c0_]) ⟨rfl, hR, Ext.rfl' _⟩
                refine ⟨Rg.at_run [48] rfl ?_, ?_⟩
                · intro ρ W hR ⟨q48, _⟩
                  replace q48 : ρ 48 = str y.name := q48
                  refine ⟨rfl, ?_⟩
                  refine Rg.enter_fn (args := #[str (y.name)]) rfl (by simp only [List.map_toArray, List.map_cons, List.map_nil, Rg.ev, q48]) (by kernel_rfl) ?_
                  refine (rtold_b (y.name) W).mono ?_
                  rintro e_ w9 ⟨rfl, hxx⟩
                  exact ⟨_, rfl, rfl, hR.trans' hxx, hxx⟩
                trivial
              case en =>
                intro tm W hR hsz hk
                rw [Rg.fin_eq (ds := [46, 47, 48, 49]) rfl rfl rfl hsz hk]
                have k46 : tm.getD 46 undef = .agg #[.int .u64 s.now, .int .u64 s.count, .slice (some ad) s.links.length c0, .slice B s.sess.length d0] := hk 46
                have k47 : tm.getD 47 undef = .pointer (some ⟨gx, 0, none⟩) := hk 47
                have k48 : tm.getD 48 undef = str y.name := hk 48
                have k49 : tm.getD 49 undef = .agg #[.int .i64 (0), str (y.name)] := hk 49
                clear hk hsz
                simp only [Rg.putAll, List.setIfInBounds_toArray, List.set_cons_zero, List.set_cons_succ, k46, k47, k48, k49]
                clear k46
                clear k47
                clear k48
                clear k49
                replace hB := hB.ext hR
                replace hR_ := hR_.ext hR
                replace hA := hA.ext hR
                replace hrq := stE.ext hrq hR
                replace hxw := hxw.trans' hR
                have r_0 := (hR_.cell 0).trans rfl
                have r_1 := (hR_.cell 1).trans rfl
                have r_2 := (hR_.cell 2).trans rfl
                have r_3 := (hR_.cell 3).trans rfl
                have rf_0 := hR_.frozen 0
                have rf_1 := hR_.frozen 1
                have rf_2 := hR_.frozen 2
                have rf_3 := hR_.frozen 3
                have ra_0 := (hA.cell 0).trans rfl
                have ra_1 := (hA.cell 1).trans rfl
                have raf_0 := hA.frozen 0
                have raf_1 := hA.frozen 1
                obtain ⟨hF4, hF5, hFr, hFx⟩ := fin_do hR_ hA hxw hgw hrq (e := 0) (tx := y.name)
                go_wp2
                try simp only [Exit.inBlock, Exit.then]
                refine bodyPost_ret (results_cell_cell rfl _ _ (g + 1 + 1) (g + 1 + 1 + 1) 28 33 #[.int .u64 s.now, .int .u64 s.count, .slice (some ad) s.links.length c0, .slice B s.sess.length d0] #[.int .i64 (0), str (y.name)] (0, 0) (0, 0) _ _ rfl hF4 Try.underlying28 rfl (by kernel_rfl) rfl hF5 Try.underlying33 rfl (by kernel_rfl)) rfl ?_
                exact ⟨s, ⟨0, y.name⟩, _, _, _, _, hide (by rw [← HRR.out]; unfold lmakeW; rw [if_neg HE0.out, HFS.out]), rfl, hFr, hFx⟩
            · have HNX := HNEXT (by unfold lown; simp at ht; simp [ht])
              clear HNEXT
              go_wp2_with fail
              go_roundw
              case rel => exact ⟨k + 1, by omega, by go_num, HNX, hxr0⟩
              case measure => simp [intOf]; omega
          · have HNX := HNEXT (by unfold lown; simp at hu; simp [hu])
            clear HNEXT
            go_wp2_with fail
            go_roundw
            case rel => exact ⟨k + 1, by omega, by go_num, HNX, hxr0⟩
            case measure => simp [intOf]; omega
        · have HNX := HNEXT (by rw [hm]; rfl)
          clear HNEXT
          rw [hm] at y_3
          clear hm
          go_wp2_with fail
          go_roundw
          case rel => exact ⟨k + 1, by omega, by go_num, HNX, hxr0⟩
          case measure => simp [intOf]; omega
      · obtain rfl : k = s.links.length := by omega
        have HFN : Hid (s.links.find? (fun x => x.made && lown c x) = none) := hide (by
          rw [List.find?_eq_none]
          intro x hx
          obtain ⟨j, hj⟩ := List.mem_iff_getElem?.1 hx
          have := hno.out j x (List.getElem?_eq_some_iff.1 hj).1 hj
          simp [this])
        have b_1 := (hB.cell 1).trans rfl
        have hc0 := s2.1
        have hc1 := s2.2
        obtain ⟨on, hon⟩ : ∃ q, ocode s.count.toNat = q := ⟨_, rfl⟩
        have HCO := hide (fun W => rcode_b s.count W ⟨hc0, hc1⟩)
        rw [hon] at HCO
        obtain ⟨nm, ec⟩ := on
        have HON := hide hon
        clear hno hon
        go_wp2_with fail
        refine (HCO.out _).mono ?_
        rintro e W2 ⟨nm2, ec2, hne2, rfl, hxe⟩
        obtain ⟨rfl, rfl⟩ := Prod.mk.inj hne2.out
        clear b_1 b_2 hne2
        replace hB := hB.ext hxe
        replace hC := hC.ext hxe
        replace hR_ := hR_.ext hxe
        replace hA := hA.ext hxe
        replace hrq := stE.ext hrq hxe
        replace hxw := hxw.trans' hxe
        clear hxe
        have b_2 := (hB.cell 2).trans rfl
        rcases Bool.eq_false_or_eq_true (decide ((40 : Int) ≤ s.links.length)) with hm | hm
        · have HM : Hid (238328 ≤ s.count ∨ 40 ≤ s.links.length) := hide (.inr (by have := of_decide_eq_true hm; omega))
          go_wp2_with fail
          clear b_2
          refine Rg.regionT Try.checked.mixed 81 2 (by kernel_rfl) [
            (fun x_ _ => x_ = .agg #[.int .u64 s.now, .int .u64 s.count, .slice A s.links.length c0, .slice B s.sess.length d0]),
            (fun x_ _ => x_ = .agg #[.int .i64 (12), str ([])])] (fun W => Ext W2 W) Ext rfl rfl rfl
            ?st ((Ext.rfl' W2).drew') ?ob ?en
          case st => exact ⟨fun _ _ _ h _ => h, fun _ _ _ h _ => h, trivial⟩
          case ob =>
            refine ⟨Rg.at_run [2] rfl ?_, ?_⟩
            · intro ρ W hR ⟨q2, _⟩
              replace q2 : ρ 2 = .pointer (some ⟨g, 0, none⟩) := q2
              refine ⟨rfl, ?_⟩
              have c0_ : W.cell? ⟨g, 0, none⟩ = some (.int .u64 s.now) := ((hB.ext hR).cell 0).trans rfl
              have c1_ : W.cell? ⟨g, 1, none⟩ = some (.int .u64 s.count) := ((hB.ext hR).cell 1).trans rfl
              have c2_ : W.cell? ⟨g, 2, none⟩ = some (.slice A s.links.length c0) := ((hB.ext hR).cell 2).trans rfl
              have c3_ : W.cell? ⟨g, 3, none⟩ = some (.slice B s.sess.length d0) := ((hB.ext hR).cell 3).trans rfl
              exact Rg.run_ok (v := .agg #[.int .u64 s.now, .int .u64 s.count, .slice A s.links.length c0, .slice B s.sess.length d0]) (by simp [execOp, Rg.ev, go_sem, q2, c0_, c1_, c2_, c3_]) ⟨rfl, hR, Ext.rfl' _⟩
            refine ⟨Rg.at_run [] rfl ?_, ?_⟩
            · intro ρ W hR _
              refine ⟨rfl, ?_⟩
              refine Rg.enter_fn (args := #[.int .i64 (12)]) rfl (by simp only [List.map_toArray, List.map_cons, List.map_nil, Rg.ev]) (by kernel_rfl) ?_
              refine (rfails_b (12) W).mono ?_
              rintro e_ w9 ⟨rfl, hxx⟩
              exact ⟨_, rfl, rfl, hR.trans' hxx, hxx⟩
            trivial
          case en =>
            intro tm W hR hsz hk
            rw [Rg.fin_eq (ds := [64, 65]) rfl rfl rfl hsz hk]
            have k64 : tm.getD 64 undef = .agg #[.int .u64 s.now, .int .u64 s.count, .slice A s.links.length c0, .slice B s.sess.length d0] := hk 64
            have k65 : tm.getD 65 undef = .agg #[.int .i64 (12), str ([])] := hk 65
            clear hk hsz
            simp only [Rg.putAll, List.setIfInBounds_toArray, List.set_cons_zero, List.set_cons_succ, k64, k65]
            clear k64
            clear k65
            replace hB := hB.ext hR
            replace hR_ := hR_.ext hR
            replace hA := hA.ext hR
            replace hrq := stE.ext hrq hR
            replace hxw := hxw.trans' hR
            have r_0 := (hR_.cell 0).trans rfl
            have r_1 := (hR_.cell 1).trans rfl
            have r_2 := (hR_.cell 2).trans rfl
            have r_3 := (hR_.cell 3).trans rfl
            have rf_0 := hR_.frozen 0
            have rf_1 := hR_.frozen 1
            have rf_2 := hR_.frozen 2
            have rf_3 := hR_.frozen 3
            have ra_0 := (hA.cell 0).trans rfl
            have ra_1 := (hA.cell 1).trans rfl
            have raf_0 := hA.frozen 0
            have raf_1 := hA.frozen 1
            obtain ⟨hF4, hF5, hFr, hFx⟩ := fin_do hR_ hA hxw hgw hrq (e := 12) (tx := [])
            go_wp2
            try simp only [Exit.inBlock, Exit.then]
            refine bodyPost_ret (results_cell_cell rfl _ _ (g + 1 + 1) (g + 1 + 1 + 1) 28 33 #[.int .u64 s.now, .int .u64 s.count, .slice A s.links.length c0, .slice B s.sess.length d0] #[.int .i64 (12), str ([])] (0, 0) (0, 0) _ _ rfl hF4 Try.underlying28 rfl (by kernel_rfl) rfl hF5 Try.underlying33 rfl (by kernel_rfl)) rfl ?_
            exact ⟨s, ⟨12, []⟩, _, _, _, _, hide (by rw [← HRR.out]; unfold lmakeW; rw [if_neg HE0.out, HFN.out]; simp only; rw [if_pos HM.out]), rfl, hFr, hFx⟩
        · by_cases hcn2 : 238328 ≤ s.count
          · have HM : Hid (238328 ≤ s.count ∨ 40 ≤ s.links.length) := hide (.inl hcn2)
            obtain ⟨rfl, rfl⟩ : nm2 = [] ∧ ec2 = 12 := by
              have := HON.out
              unfold ocode at this
              rw [if_pos (by omega)] at this
              have := Prod.mk.inj this
              exact ⟨this.1.symm, this.2.symm⟩
            go_wp2_with fail
            clear b_2
            refine Rg.regionT Try.checked.mixed 81 2 (by kernel_rfl) [
              (fun x_ _ => x_ = .agg #[.int .u64 s.now, .int .u64 s.count, .slice A s.links.length c0, .slice B s.sess.length d0]),
              (fun x_ _ => x_ = .agg #[.int .i64 (12), str ([])])] (fun W => Ext W2 W) Ext rfl rfl rfl
              ?st ((Ext.rfl' W2).drew') ?ob ?en
            case st => exact ⟨fun _ _ _ h _ => h, fun _ _ _ h _ => h, trivial⟩
            case ob =>
              refine ⟨Rg.at_run [2] rfl ?_, ?_⟩
              · intro ρ W hR ⟨q2, _⟩
                replace q2 : ρ 2 = .pointer (some ⟨g, 0, none⟩) := q2
                refine ⟨rfl, ?_⟩
                have c0_ : W.cell? ⟨g, 0, none⟩ = some (.int .u64 s.now) := ((hB.ext hR).cell 0).trans rfl
                have c1_ : W.cell? ⟨g, 1, none⟩ = some (.int .u64 s.count) := ((hB.ext hR).cell 1).trans rfl
                have c2_ : W.cell? ⟨g, 2, none⟩ = some (.slice A s.links.length c0) := ((hB.ext hR).cell 2).trans rfl
                have c3_ : W.cell? ⟨g, 3, none⟩ = some (.slice B s.sess.length d0) := ((hB.ext hR).cell 3).trans rfl
                exact Rg.run_ok (v := .agg #[.int .u64 s.now, .int .u64 s.count, .slice A s.links.length c0, .slice B s.sess.length d0]) (by simp [execOp, Rg.ev, go_sem, q2, c0_, c1_, c2_, c3_]) ⟨rfl, hR, Ext.rfl' _⟩
              refine ⟨Rg.at_run [] rfl ?_, ?_⟩
              · intro ρ W hR _
                refine ⟨rfl, ?_⟩
                refine Rg.enter_fn (args := #[.int .i64 (12)]) rfl (by simp only [List.map_toArray, List.map_cons, List.map_nil, Rg.ev]) (by kernel_rfl) ?_
                refine (rfails_b (12) W).mono ?_
                rintro e_ w9 ⟨rfl, hxx⟩
                exact ⟨_, rfl, rfl, hR.trans' hxx, hxx⟩
              trivial
            case en =>
              intro tm W hR hsz hk
              rw [Rg.fin_eq (ds := [64, 65]) rfl rfl rfl hsz hk]
              have k64 : tm.getD 64 undef = .agg #[.int .u64 s.now, .int .u64 s.count, .slice A s.links.length c0, .slice B s.sess.length d0] := hk 64
              have k65 : tm.getD 65 undef = .agg #[.int .i64 (12), str ([])] := hk 65
              clear hk hsz
              simp only [Rg.putAll, List.setIfInBounds_toArray, List.set_cons_zero, List.set_cons_succ, k64, k65]
              clear k64
              clear k65
              replace hB := hB.ext hR
              replace hR_ := hR_.ext hR
              replace hA := hA.ext hR
              replace hrq := stE.ext hrq hR
              replace hxw := hxw.trans' hR
              have r_0 := (hR_.cell 0).trans rfl
              have r_1 := (hR_.cell 1).trans rfl
              have r_2 := (hR_.cell 2).trans rfl
              have r_3 := (hR_.cell 3).trans rfl
              have rf_0 := hR_.frozen 0
              have rf_1 := hR_.frozen 1
              have rf_2 := hR_.frozen 2
              have rf_3 := hR_.frozen 3
              have ra_0 := (hA.cell 0).trans rfl
              have ra_1 := (hA.cell 1).trans rfl
              have raf_0 := hA.frozen 0
              have raf_1 := hA.frozen 1
              obtain ⟨hF4, hF5, hFr, hFx⟩ := fin_do hR_ hA hxw hgw hrq (e := 12) (tx := [])
              go_wp2
              try simp only [Exit.inBlock, Exit.then]
              refine bodyPost_ret (results_cell_cell rfl _ _ (g + 1 + 1) (g + 1 + 1 + 1) 28 33 #[.int .u64 s.now, .int .u64 s.count, .slice A s.links.length c0, .slice B s.sess.length d0] #[.int .i64 (12), str ([])] (0, 0) (0, 0) _ _ rfl hF4 Try.underlying28 rfl (by kernel_rfl) rfl hF5 Try.underlying33 rfl (by kernel_rfl)) rfl ?_
              exact ⟨s, ⟨12, []⟩, _, _, _, _, hide (by rw [← HRR.out]; unfold lmakeW; rw [if_neg HE0.out, HFN.out]; simp only; rw [if_pos HM.out]), rfl, hFr, hFx⟩
          · have HM : Hid (¬ (238328 ≤ s.count ∨ 40 ≤ s.links.length)) := hide (fun h => h.elim hcn2 fun h => by have := of_decide_eq_false hm; omega)
            obtain ⟨rfl, rfl⟩ : nm2 = code3 s.count.toNat ∧ ec2 = 0 := by
              have := HON.out
              rw [ocode_lt _ (by omega)] at this
              have := Prod.mk.inj this
              exact ⟨this.1.symm, this.2.symm⟩
            obtain ⟨cn, hcn_⟩ : ∃ q, code3 s.count.toNat = q := ⟨_, rfl⟩
            have hcnl : cn.length = 3 := by rw [← hcn_]; rfl
            rw [hcn_]
            have HCN := hide hcn_
            clear hcn_ HON HCO
            obtain ⟨lk, hlk⟩ : ∃ l, l = lkput s.links ⟨cn, c.url, c.till, true⟩ := ⟨_, rfl⟩
            have HLK := hide hlk
            clear hlk
            have HPUT := hide (fun W (hR : Ext W2 W) => lrput_b (XQ X g) s A c0 B d0 ⟨cn, c.url, c.till, true⟩ W (fun k hk => Nat.lt_of_lt_of_le (hk.elim (fun h => by have := hXl k h; have := hA.lt; omega) fun h => by have := hA.lt; omega) hR.size) (stE.ext hrq hR) (by simp only [maxLen]; omega) hc.u1 ⟨hc.t0, hc.t1⟩ (by omega))
            have hwr : IntKind.u64.wrap (s.count + 1) = s.count + 1 := IntWalk.u64_in _ ⟨by omega, by omega⟩
            clear b_2
            have b_0 := ((hB).cell 0).trans rfl
            have b_1 := ((hB).cell 1).trans rfl
            have b_2 := ((hB).cell 2).trans rfl
            have b_3 := ((hB).cell 3).trans rfl
            have k_0 := ((hC).cell 0).trans rfl
            have k_1 := ((hC).cell 1).trans rfl
            have k_2 := ((hC).cell 2).trans rfl
            have k_3 := ((hC).cell 3).trans rfl
            have k_4 := ((hC).cell 4).trans rfl
            have k_5 := ((hC).cell 5).trans rfl
            go_wp2_with fail
            refine (HPUT.out _ (Ext.rfl' _)).mono ?_
            rintro e W4 ⟨l_, A1, c1, hl_, rfl, hrp, hxe⟩
            obtain rfl : l_ = lk := hl_.out.trans HLK.out.symm
            clear b_0 b_1 b_2 b_3 k_0 k_1 k_2 k_3 k_4 k_5
            replace hB := hB.ext hxe
            replace hC := hC.ext hxe
            replace hR_ := hR_.ext hxe
            replace hA := hA.ext hxe
            replace hrq := stE.ext hrq hxe
            replace hxw := hxw.trans' hxe
            clear hxe
            have b_0 := ((hB).cell 0).trans rfl
            have b_1 := ((hB).cell 1).trans rfl
            have b_2 := ((hB).cell 2).trans rfl
            have b_3 := ((hB).cell 3).trans rfl
            have bf_0 := hB.frozen 0
            have bf_1 := hB.frozen 1
            have bf_2 := hB.frozen 2
            have bf_3 := hB.frozen 3
            have hcg : Chg [g] W4 _ := ((Chg.refl [g] W4).four (g := g) (by simp) (.int .u64 s.now) (.int .u64 s.count) (.slice A1 l_.length c1) (.slice B s.sess.length d0)).set (p := ⟨g, 1, none⟩) (by simp) (.int .u64 (s.count + 1))
            have hB5 := (Blk.four hB (.int .u64 s.now) (.int .u64 s.count) (.slice A1 l_.length c1) (.slice B s.sess.length d0)).set_ 1 (.int .u64 (s.count + 1))
            have hC5 := hC.chg hcg (by simp)
            have hR5 := hR_.chg hcg (by simp; omega)
            have hA5 := hA.chg hcg (by simp; omega)
            have hx5 := hxw.then_ hcg (by simp; omega)
            have hrp5 := stE.chg hrp hcg (fun j hj _ => by have := List.mem_singleton.1 hj; exact .inr (by omega))
            go_upto_region 15 with fail
            generalize (((((W4.setCell ⟨g, 0, none⟩ (.int .u64 s.now)).setCell ⟨g, 1, none⟩ (.int .u64 s.count)).setCell ⟨g, 2, none⟩ (.slice A1 l_.length c1)).setCell ⟨g, 3, none⟩ (.slice B s.sess.length d0)).setCell ⟨g, 1, none⟩ (.int .u64 (s.count + 1))) = W5 at *
            clear hcg hB hC hR_ hA hxw hrq hrp b_0 b_1 b_2 b_3 bf_0 bf_1 bf_2 bf_3
            obtain ⟨hB, hC, hR_, hA, hxw⟩ := And.intro hB5 (And.intro hC5 (And.intro hR5 (And.intro hA5 hx5)))
            obtain ⟨vl, vs, hcs, q1, q2, q3, q4⟩ := st_rep.1 hrp5
            simp only [List.cons.injEq, and_true, true_and] at hcs
            obtain ⟨rfl, rfl⟩ := hcs
            have hrq : stE.rep W5 (XQ X g) [.int .u64 s.now, .int .u64 (s.count + 1), .slice A1 l_.length c1, .slice B s.sess.length d0] ⟨s.now, s.count + 1, l_, s.sess⟩ := st_rep.2 ⟨_, _, rfl, q1, ⟨by show 0 ≤ s.count + 1; omega, by show s.count + 1 ≤ _; omega⟩, q3, q4⟩
            clear hB5 hC5 hR5 hA5 hx5 hrp5 q1 q2 q3 q4
            refine Rg.regionT Try.checked.mixed 81 3 (by kernel_rfl) [
              (fun x_ _ => x_ = .agg #[.int .u64 s.now, .int .u64 (s.count + 1), .slice A1 l_.length c1, .slice B s.sess.length d0]),
              (fun x_ _ => x_ = str cn),
              (fun x_ _ => x_ = .agg #[.int .i64 (0), str (cn)])] (fun W => Ext W5 W) Ext rfl rfl rfl
              ?st ((Ext.rfl' W5).drew') ?ob ?en
            case st => exact ⟨fun _ _ _ h _ => h, fun _ _ _ h _ => h, fun _ _ _ h _ => h, trivial⟩
            case ob =>
              refine ⟨Rg.at_run [2] rfl ?_, ?_⟩
              · intro ρ W hR ⟨q2, _⟩
                replace q2 : ρ 2 = .pointer (some ⟨g, 0, none⟩) := q2
                refine ⟨rfl, ?_⟩
                have c0_ : W.cell? ⟨g, 0, none⟩ = some (.int .u64 s.now) := ((hB.ext hR).cell 0).trans rfl
                have c1_ : W.cell? ⟨g, 1, none⟩ = some (.int .u64 (s.count + 1)) := ((hB.ext hR).cell 1).trans rfl
                have c2_ : W.cell? ⟨g, 2, none⟩ = some (.slice A1 l_.length c1) := ((hB.ext hR).cell 2).trans rfl
                have c3_ : W.cell? ⟨g, 3, none⟩ = some (.slice B s.sess.length d0) := ((hB.ext hR).cell 3).trans rfl
                exact Rg.run_ok (v := .agg #[.int .u64 s.now, .int .u64 (s.count + 1), .slice A1 l_.length c1, .slice B s.sess.length d0]) (by simp [execOp, Rg.ev, go_sem, q2, c0_, c1_, c2_, c3_]) ⟨rfl, hR, Ext.rfl' _⟩
              refine ⟨Rg.at_run [9] rfl ?_, ?_⟩
              · intro ρ W hR ⟨q9, _⟩
                replace q9 : ρ 9 = str cn := q9
                refine ⟨rfl, ?_⟩
                exact Rg.run_ok (v := str cn) (by simp [execOp, Rg.ev, go_sem, q9]) ⟨rfl, hR, Ext.rfl' _⟩
              refine ⟨Rg.at_run [79] rfl ?_, ?_⟩
              · intro ρ W hR ⟨q79, _⟩
                replace q79 : ρ 79 = str cn := q79
                refine ⟨rfl, ?_⟩
                refine Rg.enter_fn (args := #[str (cn)]) rfl (by simp only [List.map_toArray, List.map_cons, List.map_nil, Rg.ev, q79]) (by kernel_rfl) ?_
                refine (rtold_b (cn) W).mono ?_
                rintro e_ w9 ⟨rfl, hxx⟩
                exact ⟨_, rfl, rfl, hR.trans' hxx, hxx⟩
              trivial
            case en =>
              intro tm W hR hsz hk
              rw [Rg.fin_eq (ds := [78, 79, 80]) rfl rfl rfl hsz hk]
              have k78 : tm.getD 78 undef = .agg #[.int .u64 s.now, .int .u64 (s.count + 1), .slice A1 l_.length c1, .slice B s.sess.length d0] := hk 78
              have k79 : tm.getD 79 undef = str cn := hk 79
              have k80 : tm.getD 80 undef = .agg #[.int .i64 (0), str (cn)] := hk 80
              clear hk hsz
              simp only [Rg.putAll, List.setIfInBounds_toArray, List.set_cons_zero, List.set_cons_succ, k78, k79, k80]
              clear k78
              clear k79
              clear k80
              replace hB := hB.ext hR
              replace hR_ := hR_.ext hR
              replace hA := hA.ext hR
              replace hrq := stE.ext hrq hR
              replace hxw := hxw.trans' hR
              have r_0 := (hR_.cell 0).trans rfl
              have r_1 := (hR_.cell 1).trans rfl
              have r_2 := (hR_.cell 2).trans rfl
              have r_3 := (hR_.cell 3).trans rfl
              have rf_0 := hR_.frozen 0
              have rf_1 := hR_.frozen 1
              have rf_2 := hR_.frozen 2
              have rf_3 := hR_.frozen 3
              have ra_0 := (hA.cell 0).trans rfl
              have ra_1 := (hA.cell 1).trans rfl
              have raf_0 := hA.frozen 0
              have raf_1 := hA.frozen 1
              obtain ⟨hF4, hF5, hFr, hFx⟩ := fin_do hR_ hA hxw hgw hrq (e := 0) (tx := cn)
              go_wp2
              try simp only [Exit.inBlock, Exit.then]
              refine bodyPost_ret (results_cell_cell rfl _ _ (g + 1 + 1) (g + 1 + 1 + 1) 28 33 #[.int .u64 s.now, .int .u64 (s.count + 1), .slice A1 l_.length c1, .slice B s.sess.length d0] #[.int .i64 (0), str (cn)] (0, 0) (0, 0) _ _ rfl hF4 Try.underlying28 rfl (by kernel_rfl) rfl hF5 Try.underlying33 rfl (by kernel_rfl)) rfl ?_
              exact ⟨⟨s.now, s.count + 1, l_, s.sess⟩, ⟨0, cn⟩, _, _, _, _, hide (by rw [← HRR.out]; unfold lmakeW; rw [if_neg HE0.out, HFN.out]; simp only; rw [if_neg HM.out, HCN.out, HLK.out]), rfl, hFr, hFx⟩
end Go.Proofs.Ytggfemdgccgbpaa

/- The document's links: Do. -/
namespace Go.Proofs.Ytggfemdgccgbpaa
set_option linter.unusedVariables false
set_option linter.unusedSimpArgs false
set_option linter.unnecessarySimpa false
set_option maxRecDepth 100000
open Go.RowKit
set_option maxHeartbeats 12800000 in
theorem lrdo_b (X : Avoid) (s : St) (A : Option Addr) (c0 : Nat) (B : Option Addr) (d0 : Nat) (c : Cm) (w : World) (hX : ∀ k, X k → k < w.heap.size) (hs : stE.rep w X [.int .u64 s.now, .int .u64 s.count, .slice A s.links.length c0, .slice B s.sess.length d0] s) (hc : c.wide) (hcn : c.name.length ≤ 1000000) (hll : s.links.length ≤ 1000) :
    Calls Try.prog 14 #[.agg #[.int .u64 s.now, .int .u64 s.count, .slice A s.links.length c0, .slice B s.sess.length d0], cv c] w fun e w' => RetDo X w w' e (rdo s c) := by
  obtain ⟨vl, vs, hcs, s1, s2, s3, s4⟩ := st_rep.1 hs
  simp only [List.cons.injEq, and_true, true_and] at hcs
  obtain ⟨rfl, rfl⟩ := hcs
  obtain ⟨hB, hC, hR_, hA, hxw⟩ := four_al w 28 37 28 33 #[.int .u64 s.now, .int .u64 s.count, .slice A s.links.length c0, .slice B s.sess.length d0] (ccells c) #[.int .u64 0, .int .u64 0, .slice none 0 0, .slice none 0 0] #[.int .i64 0, str []]
  obtain ⟨g, hg⟩ : ∃ g, w.heap.size = g := ⟨_, rfl⟩
  rw [hg] at hB hC hR_ hA
  have hgw : w.heap.size ≤ g := by omega
  have hXl : ∀ k, X k → k < g := fun k hk => by rw [← hg]; exact hX k hk
  have hrq := stE.ext (stE.mono hs (Y := XQ X g) fun k hk h => h.elim id fun h => by omega) hxw
  obtain ⟨r, hr⟩ : ∃ r, rdo s c = r := ⟨_, rfl⟩
  rw [hr]
  have HRR := hide hr
  clear hr
  go_enter Try.func14, Try.ntmps14
  go_upto_region 1 with fail
  generalize ((((w.alloc (.cells #[.int .u64 s.now, .int .u64 s.count, .slice A s.links.length c0, .slice B s.sess.length d0] 28)).alloc (.cells (ccells c) 37)).alloc (.cells #[.int .u64 0, .int .u64 0, .slice none 0 0, .slice none 0 0] 28)).alloc (.cells #[.int .i64 0, str []] 33)) = w1 at *
  try rw [hg]
  have hXd : ∀ W, Ext w1 W → ∀ k, XQ X g k → k < W.heap.size := fun W hx k hk => Nat.lt_of_lt_of_le (hk.elim (fun h => by have := hXl k h; have := hA.lt; omega) fun h => by have := hA.lt; omega) hx.size
  have k_0 := (hC.cell 0).trans rfl
  rcases Bool.eq_false_or_eq_true (c.kind == 4) with h4 | h4
  · have H4 : Hid (c.kind = 4) := hide (by simpa using h4)
    have k_5 := (hC.cell 5).trans rfl
    rcases Bool.eq_false_or_eq_true (decide (1099511627776 < c.till)) with ht | ht
    · have HT : Hid (1099511627776 < c.till) := hide (of_decide_eq_true ht)
      go_wp2_with fail
      clear k_0 k_5
      refine Rg.regionT Try.checked.mixed 95 2 (by kernel_rfl) [
        (fun x_ _ => x_ = .agg #[.int .u64 s.now, .int .u64 s.count, .slice A s.links.length c0, .slice B s.sess.length d0]),
        (fun x_ _ => x_ = .agg #[.int .i64 (1), str ([])])] (fun W => Ext w1 W) Ext rfl rfl rfl
        ?st ((Ext.rfl' w1).drew') ?ob ?en
      case st => exact ⟨fun _ _ _ h _ => h, fun _ _ _ h _ => h, trivial⟩
      case ob =>
        refine ⟨Rg.at_run [2] rfl ?_, ?_⟩
        · intro ρ W hR ⟨q2, _⟩
          replace q2 : ρ 2 = .pointer (some ⟨g, 0, none⟩) := q2
          refine ⟨rfl, ?_⟩
          have c0_ : W.cell? ⟨g, 0, none⟩ = some (.int .u64 s.now) := ((hB.ext hR).cell 0).trans rfl
          have c1_ : W.cell? ⟨g, 1, none⟩ = some (.int .u64 s.count) := ((hB.ext hR).cell 1).trans rfl
          have c2_ : W.cell? ⟨g, 2, none⟩ = some (.slice A s.links.length c0) := ((hB.ext hR).cell 2).trans rfl
          have c3_ : W.cell? ⟨g, 3, none⟩ = some (.slice B s.sess.length d0) := ((hB.ext hR).cell 3).trans rfl
          exact Rg.run_ok (v := .agg #[.int .u64 s.now, .int .u64 s.count, .slice A s.links.length c0, .slice B s.sess.length d0]) (by simp [execOp, Rg.ev, go_sem, q2, c0_, c1_, c2_, c3_]) ⟨rfl, hR, Ext.rfl' _⟩
        refine ⟨Rg.at_run [] rfl ?_, ?_⟩
        · intro ρ W hR _
          refine ⟨rfl, ?_⟩
          refine Rg.enter_fn (args := #[.int .i64 (1)]) rfl (by simp only [List.map_toArray, List.map_cons, List.map_nil, Rg.ev]) (by kernel_rfl) ?_
          refine (rfails_b (1) W).mono ?_
          rintro e_ w9 ⟨rfl, hxx⟩
          exact ⟨_, rfl, rfl, hR.trans' hxx, hxx⟩
        trivial
      case en =>
        intro tm W hR hsz hk
        rw [Rg.fin_eq (ds := [17, 18]) rfl rfl rfl hsz hk]
        have k17 : tm.getD 17 undef = .agg #[.int .u64 s.now, .int .u64 s.count, .slice A s.links.length c0, .slice B s.sess.length d0] := hk 17
        have k18 : tm.getD 18 undef = .agg #[.int .i64 (1), str ([])] := hk 18
        clear hk hsz
        simp only [Rg.putAll, List.setIfInBounds_toArray, List.set_cons_zero, List.set_cons_succ, k17, k18]
        clear k17
        clear k18
        replace hB := hB.ext hR
        replace hR_ := hR_.ext hR
        replace hA := hA.ext hR
        replace hrq := stE.ext hrq hR
        replace hxw := hxw.trans' hR
        have r_0 := (hR_.cell 0).trans rfl
        have r_1 := (hR_.cell 1).trans rfl
        have r_2 := (hR_.cell 2).trans rfl
        have r_3 := (hR_.cell 3).trans rfl
        have rf_0 := hR_.frozen 0
        have rf_1 := hR_.frozen 1
        have rf_2 := hR_.frozen 2
        have rf_3 := hR_.frozen 3
        have ra_0 := (hA.cell 0).trans rfl
        have ra_1 := (hA.cell 1).trans rfl
        have raf_0 := hA.frozen 0
        have raf_1 := hA.frozen 1
        obtain ⟨hF4, hF5, hFr, hFx⟩ := fin_do hR_ hA hxw hgw hrq (e := 1) (tx := [])
        go_wp2
        try simp only [Exit.inBlock, Exit.then]
        refine bodyPost_ret (results_cell_cell rfl _ _ (g + 1 + 1) (g + 1 + 1 + 1) 28 33 #[.int .u64 s.now, .int .u64 s.count, .slice A s.links.length c0, .slice B s.sess.length d0] #[.int .i64 (1), str ([])] (0, 0) (0, 0) _ _ rfl hF4 Try.underlying28 rfl (by kernel_rfl) rfl hF5 Try.underlying33 rfl (by kernel_rfl)) rfl ?_
        exact ⟨s, ⟨1, []⟩, _, _, _, _, hide (by rw [← HRR.out]; unfold rdo ldoW; rw [if_pos H4.out]; unfold ltime; rw [if_pos HT.out]), rfl, hFr, hFx⟩
    · have HT : Hid (¬ 1099511627776 < c.till) := hide (of_decide_eq_false ht)
      obtain ⟨nw, hnw⟩ : ∃ n, max s.now c.till = n := ⟨_, rfl⟩
      have HNW := hide hnw
      clear hnw
      have b_0 := (hB.cell 0).trans rfl
      have bf_0 := hB.frozen 0
      go_upto_region 5 with fail
      go_cut [] (fun wx => wx = w1.setCell ⟨g, 0, none⟩ (.int .u64 nw))
      case first =>
        go_wp2_with fail
        go_meet
        case rel => rw [HNW.out]
      case rest =>
        clear k_0 k_5 b_0 bf_0
        have hcg : Chg [g] w1 _ := (Chg.refl [g] w1).set (p := ⟨g, 0, none⟩) (by simp) (.int .u64 nw)
        have hB5 := hB.set_ 0 (.int .u64 nw)
        change Blk _ g _ #[.int .u64 nw, .int .u64 s.count, .slice A s.links.length c0, .slice B s.sess.length d0] at hB5
        have hC5 := hC.chg hcg (by simp)
        have hR5 := hR_.chg hcg (by simp; omega)
        have hA5 := hA.chg hcg (by simp; omega)
        have hx5 := hxw.then_ hcg (by simp; omega)
        have hrp5 := stE.chg hrq hcg (fun j hj _ => by have := List.mem_singleton.1 hj; exact .inr (by omega))
        have hs3 := (s3.mono (Y := XQ X g) fun k hk h => h.elim id fun h => by omega).ext hxw
        have hs3' := hs3.chg hcg (fun j hj _ => by have := List.mem_singleton.1 hj; exact .inr (by omega))
        have hsz := hA5.lt
        obtain ⟨W2, hW2⟩ : ∃ W, w1.setCell ⟨g, 0, none⟩ (.int .u64 nw) = W := ⟨_, rfl⟩
        rw [hW2] at hcut hB5 hC5 hR5 hA5 hx5 hrp5 hs3' hsz
        subst hcut
        clear hcg hB hC hR_ hA hxw hrq hs3 hW2 
        obtain ⟨hB, hC, hR_, hA, hxw⟩ := And.intro hB5 (And.intro hC5 (And.intro hR5 (And.intro hA5 hx5)))
        clear hB5 hC5 hR5 hA5 hx5
        obtain ⟨q, hq⟩ : ∃ q, live nw = q := ⟨_, rfl⟩
        have HQ := hide hq
        clear hq
        go_wp2_with fail
        go_loopw [6, 7] (fun l i wr => ∃ (k : Nat) (ls : List Ln) (A1 : Option Addr) (c1 : Nat), k ≤ s.links.length ∧ l = .slice A1 ls.length c1 ∧ i = .int .i64 k ∧ Hid (ls = (s.links.take k).filter q) ∧ Own 48 lnE wc wr (XQ X g) (.slice A1 ls.length c1) ls ∧ Ext wc wr) (fun _ i _ => (s.links.length - intOf i).toNat)
        case atStart => exact ⟨0, [], none, 0, by omega, rfl, rfl, hide rfl, Own.nil _ _ _ _ _, Ext.rfl' _⟩
        case round =>
          obtain ⟨k, ls, A1, c1, hk, rfl, rfl, hls, hown, hxr⟩ := hrel
          replace hB := hB.ext hxr
          replace hC := hC.ext hxr
          replace hR_ := hR_.ext hxr
          replace hA := hA.ext hxr
          replace hrp5 := stE.ext hrp5 hxr
          replace hxw := hxw.trans' hxr
          replace hs3' := hs3'.ext hxr
          have hk0 : (0 : Int) ≤ k := by omega
          have b_2 := (hB.cell 2).trans rfl
          have b_0 := (hB.cell 0).trans rfl
          by_cases hlt : (k : Int) < s.links.length
          · obtain ⟨ad, y, rfl, hyk, hbp, p0, p1, p2, p3, hw1, hw2, hw3⟩ := ln_at hs3' (k := k) (by omega)
            have hkl : k < s.links.length := by omega
            have HYK := hide hyk.out
            have hlv : q y = (decide (y.till = 0) || decide (nw < y.till)) := by rw [← HQ.out]; rfl
            have HNX : Hid ((s.links.take (k + 1)).filter q = (s.links.take k).filter q ++ (if q y = true then [y] else [])) := hide (by
              obtain ⟨h4, h5⟩ := List.getElem?_eq_some_iff.1 HYK.out
              rw [List.take_succ_eq_append_getElem h4, List.filter_append, h5]
              by_cases h : q y = true
              · rw [if_pos h]; simp [h]
              · rw [if_neg h]; simp [h])
            have HLS : Hid (ls.length ≤ k) := hide (by rw [hls.out]; exact Nat.le_trans (List.length_filter_le _ _) (by simp; omega))
            go_upto_region 10 with fail
            go_cut [49] (fun b wx => b = .bool (q y) ∧ Ext wr wx)
            case first =>
              have hdx := (Ext.rfl' wr).drew'
              rcases Bool.eq_false_or_eq_true (y.till == 0) with z | z
              · have hq1 : q y = true := by rw [hlv]; simp at z; simp [z]
                clear hlv
                go_region
                go_wp2_with fail
                go_meet
                case rel => exact ⟨by rw [hq1], hdx⟩
              · rcases Bool.eq_false_or_eq_true (decide (nw < y.till)) with z2 | z2
                · have hq1 : q y = true := by rw [hlv, z2]; simp
                  clear hlv
                  go_region
                  go_wp2_with fail
                  go_meet
                  case rel => exact ⟨by rw [hq1], hdx⟩
                · have hq1 : q y = false := by rw [hlv, z2]; simp at z; simp [z]
                  clear hlv
                  go_region
                  go_wp2_with fail
                  go_meet
                  case rel => exact ⟨by rw [hq1], hdx⟩
            case rest =>
              obtain ⟨rfl, hxc⟩ := hcut
              replace hB := hB.ext hxc
              replace hown := hown.ext hxc
              replace hs3' := hs3'.ext hxc
              replace hxr := hxr.trans' hxc
              clear hlv b_0 b_2 p0 p1 p2 p3 hbp
              obtain ⟨W3, hW3⟩ : ∃ W, W = wc := ⟨_, rfl⟩
              subst hW3
              obtain ⟨ad', y', had, hyk', hbp, p0, p1, p2, p3, -⟩ := ln_at hs3' (k := k) hkl
              obtain rfl := Option.some.inj had
              obtain rfl : y = y' := Option.some.inj (HYK.out.symm.trans hyk'.out)
              have b_2 := (hB.cell 2).trans rfl
              obtain ⟨qy, hqy⟩ : ∃ b, q y = b := ⟨_, rfl⟩
              rw [hqy]
              have HQY := hide hqy
              clear hqy
              cases qy with
              | false =>
                have HF : Hid (ls = (s.links.take (k + 1)).filter q) := hide (by rw [HNX.out, HQY.out, hls.out]; simp)
                go_wp2_with fail
                go_roundw
                case rel => exact ⟨k + 1, ls, A1, c1, by omega, rfl, by go_num, HF, hown, hxr⟩
                case measure => simp [intOf]; omega
              | true =>
                have hxa : Ext W3 (W3.alloc (.cells #[str y.name, str y.url, .int .u64 y.till, .bool y.made] 48)) := (Ext.rfl' W3).alloc' _
                have hlit : Enc.Sl lnE (W3.alloc (.cells #[str y.name, str y.url, .int .u64 y.till, .bool y.made] 48)) (fun j => XQ X g j ∨ (Value.slice A1 ls.length c1).ownBlock = some j) (.slice (some ⟨W3.heap.size, 0, none⟩) 1 1) [y] :=
                  Sl.one (E := lnE) 48 (cs := lcells y) (ln_rep.2 ⟨rfl, hw1, hw2, hw3⟩) _ rfl (fun h => by
                    have := hB.lt; have := hxr.size
                    rcases h with (h | h) | h
                    · have := hXl _ h; omega
                    · omega
                    · have := (hown.lt _ h).2; omega)
                go_wp2_with (at_builtin; refine wpList_own elt_ln 25 Try.underlying25 rfl _ _ rfl (hown.ext hxa) rfl (hxr.trans' hxa) (m := [y]) (y := .slice (some ⟨W3.heap.size, 0, none⟩) 1 1) rfl hlit (fun h => by have := (hxr.trans' hxa).size; rcases h with h | h; (have := hXl _ h; omega); omega) (by have := HLS.out; simp only [List.length_singleton]; omega) (by have := HLS.out; simp only [List.length_singleton]; omega) ?_; intro l2 A2 c2 w4 hl2 hown2 hx4 hc4)
                go_roundw
                case rel => exact ⟨k + 1, l2, A2, c2, by omega, rfl, by go_num, hide (by rw [hl2.out, HNX.out, HQY.out, hls.out]; simp), hown2, hx4⟩
                case measure => simp [intOf]; omega
          · obtain rfl : k = s.links.length := by omega
            have HL : Hid (ls = s.links.filter q) := hide (by rw [hls.out, List.take_length])
            clear hs3' b_0
            have bf_2 := hB.frozen 2
            have hcg : Chg [g] wr _ := (Chg.refl [g] wr).set (p := ⟨g, 2, none⟩) (by simp) (.slice A1 ls.length c1)
            have hB5 := hB.set_ 2 (.slice A1 ls.length c1)
            change Blk _ g _ #[.int .u64 nw, .int .u64 s.count, .slice A1 ls.length c1, .slice B s.sess.length d0] at hB5
            have hC5 := hC.chg hcg (by simp)
            have hR5 := hR_.chg hcg (by simp; omega)
            have hA5 := hA.chg hcg (by simp; omega)
            have hx5 := hxw.then_ hcg (by simp; omega)
            have hrp6 := stE.chg hrp5 hcg (fun j hj _ => by have := List.mem_singleton.1 hj; exact .inr (by omega))
            have hown5 := (hown.chg hcg (fun j hj _ => by have := List.mem_singleton.1 hj; exact .inr (by omega))).sl
            obtain ⟨vl, vs, hcs, q1, q2, q3, q4⟩ := st_rep.1 hrp6
            simp only [List.cons.injEq, and_true, true_and] at hcs
            obtain ⟨rfl, rfl⟩ := hcs
            have hnwU : U64 nw := by
              obtain ⟨u1, u2⟩ := s1
              have := hc.t0
              have := hc.t1
              constructor
              · rw [← HNW.out]; omega
              · rw [← HNW.out]; omega
            have hrq : stE.rep _ (XQ X g) [.int .u64 nw, .int .u64 s.count, .slice A1 ls.length c1, .slice B s.sess.length d0] ⟨nw, s.count, ls, s.sess⟩ := st_rep.2 ⟨_, _, rfl, hnwU, q2, hown5, q4⟩
            go_upto_region 13 with fail
            generalize wr.setCell ⟨g, 2, none⟩ (.slice A1 ls.length c1) = W5 at *
            clear hB hC hR_ hA hxw hcg b_2 bf_2 hown hxr hrp5 hrp6 q1 q2 q3 q4 hown5
            obtain ⟨hB, hC, hR_, hA, hxw⟩ := And.intro hB5 (And.intro hC5 (And.intro hR5 (And.intro hA5 hx5)))
            clear hB5 hC5 hR5 hA5 hx5
            refine Rg.regionT Try.checked.mixed 95 2 (by kernel_rfl) [
              (fun x_ _ => x_ = .agg #[.int .u64 nw, .int .u64 s.count, .slice A1 ls.length c1, .slice B s.sess.length d0]),
              (fun x_ _ => x_ = .agg #[.int .i64 (0), str ([])])] (fun W => Ext W5 W) Ext rfl rfl rfl
              ?st ((Ext.rfl' W5).drew') ?ob ?en
            case st => exact ⟨fun _ _ _ h _ => h, fun _ _ _ h _ => h, trivial⟩
            case ob =>
              refine ⟨Rg.at_run [2] rfl ?_, ?_⟩
              · intro ρ W hR ⟨q2, _⟩
                replace q2 : ρ 2 = .pointer (some ⟨g, 0, none⟩) := q2
                refine ⟨rfl, ?_⟩
                have c0_ : W.cell? ⟨g, 0, none⟩ = some (.int .u64 nw) := ((hB.ext hR).cell 0).trans rfl
                have c1_ : W.cell? ⟨g, 1, none⟩ = some (.int .u64 s.count) := ((hB.ext hR).cell 1).trans rfl
                have c2_ : W.cell? ⟨g, 2, none⟩ = some (.slice A1 ls.length c1) := ((hB.ext hR).cell 2).trans rfl
                have c3_ : W.cell? ⟨g, 3, none⟩ = some (.slice B s.sess.length d0) := ((hB.ext hR).cell 3).trans rfl
                exact Rg.run_ok (v := .agg #[.int .u64 nw, .int .u64 s.count, .slice A1 ls.length c1, .slice B s.sess.length d0]) (by simp [execOp, Rg.ev, go_sem, q2, c0_, c1_, c2_, c3_]) ⟨rfl, hR, Ext.rfl' _⟩
              refine ⟨Rg.at_run [] rfl ?_, ?_⟩
              · intro ρ W hR _
                refine ⟨rfl, ?_⟩
                refine Rg.enter_fn (args := #[str ([])]) rfl (by simp only [List.map_toArray, List.map_cons, List.map_nil, Rg.ev]) (by kernel_rfl) ?_
                refine (rtold_b ([]) W).mono ?_
                rintro e_ w9 ⟨rfl, hxx⟩
                exact ⟨_, rfl, rfl, hR.trans' hxx, hxx⟩
              trivial
            case en =>
              intro tm W hR hsz hk
              rw [Rg.fin_eq (ds := [60, 61]) rfl rfl rfl hsz hk]
              have k60 : tm.getD 60 undef = .agg #[.int .u64 nw, .int .u64 s.count, .slice A1 ls.length c1, .slice B s.sess.length d0] := hk 60
              have k61 : tm.getD 61 undef = .agg #[.int .i64 (0), str ([])] := hk 61
              clear hk hsz
              simp only [Rg.putAll, List.setIfInBounds_toArray, List.set_cons_zero, List.set_cons_succ, k60, k61]
              clear k60
              clear k61
              replace hB := hB.ext hR
              replace hR_ := hR_.ext hR
              replace hA := hA.ext hR
              replace hrq := stE.ext hrq hR
              replace hxw := hxw.trans' hR
              have r_0 := (hR_.cell 0).trans rfl
              have r_1 := (hR_.cell 1).trans rfl
              have r_2 := (hR_.cell 2).trans rfl
              have r_3 := (hR_.cell 3).trans rfl
              have rf_0 := hR_.frozen 0
              have rf_1 := hR_.frozen 1
              have rf_2 := hR_.frozen 2
              have rf_3 := hR_.frozen 3
              have ra_0 := (hA.cell 0).trans rfl
              have ra_1 := (hA.cell 1).trans rfl
              have raf_0 := hA.frozen 0
              have raf_1 := hA.frozen 1
              obtain ⟨hF4, hF5, hFr, hFx⟩ := fin_do hR_ hA hxw hgw hrq (e := 0) (tx := [])
              go_wp2
              try simp only [Exit.inBlock, Exit.then]
              refine bodyPost_ret (results_cell_cell rfl _ _ (g + 1 + 1) (g + 1 + 1 + 1) 28 33 #[.int .u64 nw, .int .u64 s.count, .slice A1 ls.length c1, .slice B s.sess.length d0] #[.int .i64 (0), str ([])] (0, 0) (0, 0) _ _ rfl hF4 Try.underlying28 rfl (by kernel_rfl) rfl hF5 Try.underlying33 rfl (by kernel_rfl)) rfl ?_
              exact ⟨⟨nw, s.count, ls, s.sess⟩, ⟨0, []⟩, _, _, _, _, hide (by rw [← HRR.out]; unfold rdo ldoW; rw [if_pos H4.out]; unfold ltime; rw [if_neg (by have := HT.out; omega), HNW.out, HL.out, ← HQ.out]), rfl, hFr, hFx⟩
  · have H4 : Hid (¬ c.kind = 4) := hide (by simpa using h4)
    rcases Bool.eq_false_or_eq_true (c.kind == 1) with h1 | h1
    · have H1 : Hid (c.kind = 1) := hide (by simpa using h1)
      have HQ := hide (fun W (hx : Ext w1 W) => lrmake_b (XQ X g) s A c0 B d0 c W (hXd W hx) (stE.ext hrq hx) hc hcn hll)
      obtain ⟨⟨t, a⟩, hta⟩ : ∃ q, lmakeW lkput s c = q := ⟨_, rfl⟩
      rw [hta] at HQ
      have HTA := hide hta
      clear hta
      have b_0 := ((hB).cell 0).trans rfl
      have b_1 := ((hB).cell 1).trans rfl
      have b_2 := ((hB).cell 2).trans rfl
      have b_3 := ((hB).cell 3).trans rfl
      have k_0 := ((hC).cell 0).trans rfl
      have k_1 := ((hC).cell 1).trans rfl
      have k_2 := ((hC).cell 2).trans rfl
      have k_3 := ((hC).cell 3).trans rfl
      have k_4 := ((hC).cell 4).trans rfl
      have k_5 := ((hC).cell 5).trans rfl
      go_wp2_with fail
      refine (HQ.out _ (Ext.rfl' _)).mono ?_
      rintro e W2 ⟨t_, a_, A1, c1, A2, c2, he_, rfl, hrp, hxe⟩
      obtain ⟨rfl, rfl⟩ := Prod.mk.inj he_.out
      clear he_ b_0 b_1 b_2 b_3 k_0 k_1 k_2 k_3 k_4 k_5
      replace hB := hB.ext hxe
      replace hC := hC.ext hxe
      replace hR_ := hR_.ext hxe
      replace hA := hA.ext hxe
      replace hrq := stE.ext hrq hxe
      replace hxw := hxw.trans' hxe
      clear hxe
      have r_0 := (hR_.cell 0).trans rfl
      have r_1 := (hR_.cell 1).trans rfl
      have r_2 := (hR_.cell 2).trans rfl
      have r_3 := (hR_.cell 3).trans rfl
      have rf_0 := hR_.frozen 0
      have rf_1 := hR_.frozen 1
      have rf_2 := hR_.frozen 2
      have rf_3 := hR_.frozen 3
      have ra_0 := (hA.cell 0).trans rfl
      have ra_1 := (hA.cell 1).trans rfl
      have raf_0 := hA.frozen 0
      have raf_1 := hA.frozen 1
      obtain ⟨hF4, hF5, hFr, hFx⟩ := fin_do hR_ hA hxw hgw hrp (e := a_.err) (tx := a_.text)
      go_wp2
      try simp only [Exit.inBlock, Exit.then]
      refine bodyPost_ret (results_cell_cell rfl _ _ (g + 1 + 1) (g + 1 + 1 + 1) 28 33 #[.int .u64 t_.now, .int .u64 t_.count, .slice A1 t_.links.length c1, .slice A2 t_.sess.length c2] #[.int .i64 (a_.err), str (a_.text)] (0, 0) (0, 0) _ _ rfl hF4 Try.underlying28 rfl (by kernel_rfl) rfl hF5 Try.underlying33 rfl (by kernel_rfl)) rfl ?_
      exact ⟨t_, a_, _, _, _, _, hide (by rw [← HRR.out]; unfold rdo ldoW; rw [if_neg H4.out, if_pos H1.out]; rw [HTA.out]), rfl, hFr, hFx⟩
    · have H1 : Hid (¬ c.kind = 1) := hide (by simpa using h1)
      rcases Bool.eq_false_or_eq_true (c.kind == 2) with h2 | h2
      · have H2 : Hid (c.kind = 2) := hide (by simpa using h2)
        have HQ := hide (fun W (hx : Ext w1 W) => lrname_b (XQ X g) s A c0 B d0 c W (hXd W hx) (stE.ext hrq hx) hc hcn hll)
        obtain ⟨⟨t, a⟩, hta⟩ : ∃ q, lnameW rfind lkput s c = q := ⟨_, rfl⟩
        rw [hta] at HQ
        have HTA := hide hta
        clear hta
        have b_0 := ((hB).cell 0).trans rfl
        have b_1 := ((hB).cell 1).trans rfl
        have b_2 := ((hB).cell 2).trans rfl
        have b_3 := ((hB).cell 3).trans rfl
        have k_0 := ((hC).cell 0).trans rfl
        have k_1 := ((hC).cell 1).trans rfl
        have k_2 := ((hC).cell 2).trans rfl
        have k_3 := ((hC).cell 3).trans rfl
        have k_4 := ((hC).cell 4).trans rfl
        have k_5 := ((hC).cell 5).trans rfl
        go_wp2_with fail
        refine (HQ.out _ (Ext.rfl' _)).mono ?_
        rintro e W2 ⟨t_, a_, A1, c1, A2, c2, he_, rfl, hrp, hxe⟩
        obtain ⟨rfl, rfl⟩ := Prod.mk.inj he_.out
        clear he_ b_0 b_1 b_2 b_3 k_0 k_1 k_2 k_3 k_4 k_5
        replace hB := hB.ext hxe
        replace hC := hC.ext hxe
        replace hR_ := hR_.ext hxe
        replace hA := hA.ext hxe
        replace hrq := stE.ext hrq hxe
        replace hxw := hxw.trans' hxe
        clear hxe
        have r_0 := (hR_.cell 0).trans rfl
        have r_1 := (hR_.cell 1).trans rfl
        have r_2 := (hR_.cell 2).trans rfl
        have r_3 := (hR_.cell 3).trans rfl
        have rf_0 := hR_.frozen 0
        have rf_1 := hR_.frozen 1
        have rf_2 := hR_.frozen 2
        have rf_3 := hR_.frozen 3
        have ra_0 := (hA.cell 0).trans rfl
        have ra_1 := (hA.cell 1).trans rfl
        have raf_0 := hA.frozen 0
        have raf_1 := hA.frozen 1
        obtain ⟨hF4, hF5, hFr, hFx⟩ := fin_do hR_ hA hxw hgw hrp (e := a_.err) (tx := a_.text)
        go_wp2
        try simp only [Exit.inBlock, Exit.then]
        refine bodyPost_ret (results_cell_cell rfl _ _ (g + 1 + 1) (g + 1 + 1 + 1) 28 33 #[.int .u64 t_.now, .int .u64 t_.count, .slice A1 t_.links.length c1, .slice A2 t_.sess.length c2] #[.int .i64 (a_.err), str (a_.text)] (0, 0) (0, 0) _ _ rfl hF4 Try.underlying28 rfl (by kernel_rfl) rfl hF5 Try.underlying33 rfl (by kernel_rfl)) rfl ?_
        exact ⟨t_, a_, _, _, _, _, hide (by rw [← HRR.out]; unfold rdo ldoW; rw [if_neg H4.out, if_neg H1.out, if_pos H2.out]; rw [HTA.out]), rfl, hFr, hFx⟩
      · have H2 : Hid (¬ c.kind = 2) := hide (by simpa using h2)
        rcases Bool.eq_false_or_eq_true (c.kind == 3) with h3 | h3
        · have H3 : Hid (c.kind = 3) := hide (by simpa using h3)
          obtain ⟨⟨y, is⟩, hf⟩ : ∃ q, rfv s.links c.name = q := ⟨_, rfl⟩
          have HF1 := hide (fun W (hx : Ext w W) => lrfind_b X s A c0 (.slice B s.sess.length d0) c.name W (s3.ext hx) (by omega))
          rw [hf] at HF1
          have HF := hide hf
          clear hf
          have b_0 := ((hB).cell 0).trans rfl
          have b_1 := ((hB).cell 1).trans rfl
          have b_2 := ((hB).cell 2).trans rfl
          have b_3 := ((hB).cell 3).trans rfl
          have k_3 := (hC.cell 3).trans rfl
          go_wp2_with fail
          refine (HF1.out _ hxw).mono ?_
          rintro e W2 ⟨rfl, hxe⟩
          clear b_0 b_1 b_2 b_3 k_3
          replace hB := hB.ext hxe
          replace hC := hC.ext hxe
          replace hR_ := hR_.ext hxe
          replace hA := hA.ext hxe
          replace hrq := stE.ext hrq hxe
          replace hxw := hxw.trans' hxe
          clear hxe
          obtain ⟨gx, hgx⟩ : ∃ g_, W2.heap.size = g_ := ⟨_, rfl⟩
          have hL := Blk.new W2 48 (lcells y).toArray
          rw [hgx] at hL
          have hxe : Ext W2 (W2.alloc (.cells (lcells y).toArray 48)) := (Ext.rfl' _).alloc' _
          replace hB := hB.ext hxe
          replace hC := hC.ext hxe
          replace hR_ := hR_.ext hxe
          replace hA := hA.ext hxe
          replace hrq := stE.ext hrq hxe
          replace hxw := hxw.trans' hxe
          go_upto_region 20 with fail
          try rw [hgx]
          clear hgx hxe k_0
          generalize (W2.alloc (.cells (lcells y).toArray 48)) = W3 at *
          cases is with
          | true =>
            have HFS : Hid (rfind s.links c.name = some y) := hide (by
              have := HF.out
              unfold rfv at this
              cases h : rfind s.links c.name with
              | none => rw [h] at this; simp at this
              | some z => rw [h] at this; simp at this; rw [this])
            go_wp2_with fail
            refine Rg.regionT Try.checked.mixed 95 4 (by kernel_rfl) [
              (fun x_ _ => x_ = .agg #[.int .u64 s.now, .int .u64 s.count, .slice A s.links.length c0, .slice B s.sess.length d0]),
              (fun x_ _ => x_ = .pointer (some ⟨gx, 1, none⟩)),
              (fun x_ _ => x_ = str y.url),
              (fun x_ _ => x_ = .agg #[.int .i64 (0), str (y.url)])] (fun W => Ext W3 W) Ext rfl rfl rfl
              ?st ((Ext.rfl' W3).drew') ?ob ?en
            case st => exact ⟨fun _ _ _ h _ => h, fun _ _ _ h _ => h, fun _ _ _ h _ => h, fun _ _ _ h _ => h, trivial⟩
            case ob =>
              refine ⟨Rg.at_run [2] rfl ?_, ?_⟩
              · intro ρ W hR ⟨q2, _⟩
                replace q2 : ρ 2 = .pointer (some ⟨g, 0, none⟩) := q2
                refine ⟨rfl, ?_⟩
                have c0_ : W.cell? ⟨g, 0, none⟩ = some (.int .u64 s.now) := ((hB.ext hR).cell 0).trans rfl
                have c1_ : W.cell? ⟨g, 1, none⟩ = some (.int .u64 s.count) := ((hB.ext hR).cell 1).trans rfl
                have c2_ : W.cell? ⟨g, 2, none⟩ = some (.slice A s.links.length c0) := ((hB.ext hR).cell 2).trans rfl
                have c3_ : W.cell? ⟨g, 3, none⟩ = some (.slice B s.sess.length d0) := ((hB.ext hR).cell 3).trans rfl
                exact Rg.run_ok (v := .agg #[.int .u64 s.now, .int .u64 s.count, .slice A s.links.length c0, .slice B s.sess.length d0]) (by simp [execOp, Rg.ev, go_sem, q2, c0_, c1_, c2_, c3_]) ⟨rfl, hR, Ext.rfl' _⟩
              refine ⟨Rg.at_run [8] rfl ?_, ?_⟩
              · intro ρ W hR ⟨q8, _⟩
                replace q8 : ρ 8 = .pointer (some ⟨gx, 0, none⟩) := q8
                refine ⟨rfl, ?_⟩
                exact Rg.run_ok (v := .pointer (some ⟨gx, 1, none⟩)) (by simp [execOp, Rg.ev, go_sem, q8]) ⟨rfl, hR, Ext.rfl' _⟩
              refine ⟨Rg.at_run [90] rfl ?_, ?_⟩
              · intro ρ W hR ⟨q90, _⟩
                replace q90 : ρ 90 = .pointer (some ⟨gx, 1, none⟩) := q90
                refine ⟨rfl, ?_⟩
                have c1_ : W.cell? ⟨gx, 1, none⟩ = some (str y.url) := ((hL.ext hR).cell 1).trans rfl
                exact Rg.run_ok (v := str y.url) (by simp [execOp, Rg.ev, go_sem, q90, c1_]) ⟨rfl, hR, Ext.rfl' _⟩
              refine ⟨Rg.at_run [91] rfl ?_, ?_⟩
              · intro ρ W hR ⟨q91, _⟩
                replace q91 : ρ 91 = str y.url := q91
                refine ⟨rfl, ?_⟩
                refine Rg.enter_fn (args := #[str (y.url)]) rfl (by simp only [List.map_toArray, List.map_cons, List.map_nil, Rg.ev, q91]) (by kernel_rfl) ?_
                refine (rtold_b (y.url) W).mono ?_
                rintro e_ w9 ⟨rfl, hxx⟩
                exact ⟨_, rfl, rfl, hR.trans' hxx, hxx⟩
              trivial
            case en =>
              intro tm W hR hsz hk
              rw [Rg.fin_eq (ds := [89, 90, 91, 92]) rfl rfl rfl hsz hk]
              have k89 : tm.getD 89 undef = .agg #[.int .u64 s.now, .int .u64 s.count, .slice A s.links.length c0, .slice B s.sess.length d0] := hk 89
              have k90 : tm.getD 90 undef = .pointer (some ⟨gx, 1, none⟩) := hk 90
              have k91 : tm.getD 91 undef = str y.url := hk 91
              have k92 : tm.getD 92 undef = .agg #[.int .i64 (0), str (y.url)] := hk 92
              clear hk hsz
              simp only [Rg.putAll, List.setIfInBounds_toArray, List.set_cons_zero, List.set_cons_succ, k89, k90, k91, k92]
              clear k89
              clear k90
              clear k91
              clear k92
              replace hB := hB.ext hR
              replace hR_ := hR_.ext hR
              replace hA := hA.ext hR
              replace hrq := stE.ext hrq hR
              replace hxw := hxw.trans' hR
              have r_0 := (hR_.cell 0).trans rfl
              have r_1 := (hR_.cell 1).trans rfl
              have r_2 := (hR_.cell 2).trans rfl
              have r_3 := (hR_.cell 3).trans rfl
              have rf_0 := hR_.frozen 0
              have rf_1 := hR_.frozen 1
              have rf_2 := hR_.frozen 2
              have rf_3 := hR_.frozen 3
              have ra_0 := (hA.cell 0).trans rfl
              have ra_1 := (hA.cell 1).trans rfl
              have raf_0 := hA.frozen 0
              have raf_1 := hA.frozen 1
              obtain ⟨hF4, hF5, hFr, hFx⟩ := fin_do hR_ hA hxw hgw hrq (e := 0) (tx := y.url)
              go_wp2
              try simp only [Exit.inBlock, Exit.then]
              refine bodyPost_ret (results_cell_cell rfl _ _ (g + 1 + 1) (g + 1 + 1 + 1) 28 33 #[.int .u64 s.now, .int .u64 s.count, .slice A s.links.length c0, .slice B s.sess.length d0] #[.int .i64 (0), str (y.url)] (0, 0) (0, 0) _ _ rfl hF4 Try.underlying28 rfl (by kernel_rfl) rfl hF5 Try.underlying33 rfl (by kernel_rfl)) rfl ?_
              exact ⟨s, ⟨0, y.url⟩, _, _, _, _, hide (by rw [← HRR.out]; unfold rdo ldoW; rw [if_neg H4.out, if_neg H1.out, if_neg H2.out, if_pos H3.out]; unfold lfindW; rw [HFS.out]), rfl, hFr, hFx⟩
          | false =>
            have HFN : Hid (rfind s.links c.name = none) := hide (by
              have := HF.out
              unfold rfv at this
              cases h : rfind s.links c.name with
              | none => rfl
              | some z => rw [h] at this; simp at this)
            go_wp2_with fail
            refine Rg.regionT Try.checked.mixed 95 2 (by kernel_rfl) [
              (fun x_ _ => x_ = .agg #[.int .u64 s.now, .int .u64 s.count, .slice A s.links.length c0, .slice B s.sess.length d0]),
              (fun x_ _ => x_ = .agg #[.int .i64 (10), str ([])])] (fun W => Ext W3 W) Ext rfl rfl rfl
              ?st ((Ext.rfl' W3).drew') ?ob ?en
            case st => exact ⟨fun _ _ _ h _ => h, fun _ _ _ h _ => h, trivial⟩
            case ob =>
              refine ⟨Rg.at_run [2] rfl ?_, ?_⟩
              · intro ρ W hR ⟨q2, _⟩
                replace q2 : ρ 2 = .pointer (some ⟨g, 0, none⟩) := q2
                refine ⟨rfl, ?_⟩
                have c0_ : W.cell? ⟨g, 0, none⟩ = some (.int .u64 s.now) := ((hB.ext hR).cell 0).trans rfl
                have c1_ : W.cell? ⟨g, 1, none⟩ = some (.int .u64 s.count) := ((hB.ext hR).cell 1).trans rfl
                have c2_ : W.cell? ⟨g, 2, none⟩ = some (.slice A s.links.length c0) := ((hB.ext hR).cell 2).trans rfl
                have c3_ : W.cell? ⟨g, 3, none⟩ = some (.slice B s.sess.length d0) := ((hB.ext hR).cell 3).trans rfl
                exact Rg.run_ok (v := .agg #[.int .u64 s.now, .int .u64 s.count, .slice A s.links.length c0, .slice B s.sess.length d0]) (by simp [execOp, Rg.ev, go_sem, q2, c0_, c1_, c2_, c3_]) ⟨rfl, hR, Ext.rfl' _⟩
              refine ⟨Rg.at_run [] rfl ?_, ?_⟩
              · intro ρ W hR _
                refine ⟨rfl, ?_⟩
                refine Rg.enter_fn (args := #[.int .i64 (10)]) rfl (by simp only [List.map_toArray, List.map_cons, List.map_nil, Rg.ev]) (by kernel_rfl) ?_
                refine (rfails_b (10) W).mono ?_
                rintro e_ w9 ⟨rfl, hxx⟩
                exact ⟨_, rfl, rfl, hR.trans' hxx, hxx⟩
              trivial
            case en =>
              intro tm W hR hsz hk
              rw [Rg.fin_eq (ds := [87, 88]) rfl rfl rfl hsz hk]
              have k87 : tm.getD 87 undef = .agg #[.int .u64 s.now, .int .u64 s.count, .slice A s.links.length c0, .slice B s.sess.length d0] := hk 87
              have k88 : tm.getD 88 undef = .agg #[.int .i64 (10), str ([])] := hk 88
              clear hk hsz
              simp only [Rg.putAll, List.setIfInBounds_toArray, List.set_cons_zero, List.set_cons_succ, k87, k88]
              clear k87
              clear k88
              replace hB := hB.ext hR
              replace hR_ := hR_.ext hR
              replace hA := hA.ext hR
              replace hrq := stE.ext hrq hR
              replace hxw := hxw.trans' hR
              have r_0 := (hR_.cell 0).trans rfl
              have r_1 := (hR_.cell 1).trans rfl
              have r_2 := (hR_.cell 2).trans rfl
              have r_3 := (hR_.cell 3).trans rfl
              have rf_0 := hR_.frozen 0
              have rf_1 := hR_.frozen 1
              have rf_2 := hR_.frozen 2
              have rf_3 := hR_.frozen 3
              have ra_0 := (hA.cell 0).trans rfl
              have ra_1 := (hA.cell 1).trans rfl
              have raf_0 := hA.frozen 0
              have raf_1 := hA.frozen 1
              obtain ⟨hF4, hF5, hFr, hFx⟩ := fin_do hR_ hA hxw hgw hrq (e := 10) (tx := [])
              go_wp2
              try simp only [Exit.inBlock, Exit.then]
              refine bodyPost_ret (results_cell_cell rfl _ _ (g + 1 + 1) (g + 1 + 1 + 1) 28 33 #[.int .u64 s.now, .int .u64 s.count, .slice A s.links.length c0, .slice B s.sess.length d0] #[.int .i64 (10), str ([])] (0, 0) (0, 0) _ _ rfl hF4 Try.underlying28 rfl (by kernel_rfl) rfl hF5 Try.underlying33 rfl (by kernel_rfl)) rfl ?_
              exact ⟨s, ⟨10, []⟩, _, _, _, _, hide (by rw [← HRR.out]; unfold rdo ldoW; rw [if_neg H4.out, if_neg H1.out, if_neg H2.out, if_pos H3.out]; unfold lfindW; rw [HFN.out]), rfl, hFr, hFx⟩
        · have H3 : Hid (¬ c.kind = 3) := hide (by simpa using h3)
          go_wp2_with fail
          clear k_0
          refine Rg.regionT Try.checked.mixed 95 2 (by kernel_rfl) [
            (fun x_ _ => x_ = .agg #[.int .u64 s.now, .int .u64 s.count, .slice A s.links.length c0, .slice B s.sess.length d0]),
            (fun x_ _ => x_ = .agg #[.int .i64 (1), str ([])])] (fun W => Ext w1 W) Ext rfl rfl rfl
            ?st ((Ext.rfl' w1).drew') ?ob ?en
          case st => exact ⟨fun _ _ _ h _ => h, fun _ _ _ h _ => h, trivial⟩
          case ob =>
            refine ⟨Rg.at_run [2] rfl ?_, ?_⟩
            · intro ρ W hR ⟨q2, _⟩
              replace q2 : ρ 2 = .pointer (some ⟨g, 0, none⟩) := q2
              refine ⟨rfl, ?_⟩
              have c0_ : W.cell? ⟨g, 0, none⟩ = some (.int .u64 s.now) := ((hB.ext hR).cell 0).trans rfl
              have c1_ : W.cell? ⟨g, 1, none⟩ = some (.int .u64 s.count) := ((hB.ext hR).cell 1).trans rfl
              have c2_ : W.cell? ⟨g, 2, none⟩ = some (.slice A s.links.length c0) := ((hB.ext hR).cell 2).trans rfl
              have c3_ : W.cell? ⟨g, 3, none⟩ = some (.slice B s.sess.length d0) := ((hB.ext hR).cell 3).trans rfl
              exact Rg.run_ok (v := .agg #[.int .u64 s.now, .int .u64 s.count, .slice A s.links.length c0, .slice B s.sess.length d0]) (by simp [execOp, Rg.ev, go_sem, q2, c0_, c1_, c2_, c3_]) ⟨rfl, hR, Ext.rfl' _⟩
            refine ⟨Rg.at_run [] rfl ?_, ?_⟩
            · intro ρ W hR _
              refine ⟨rfl, ?_⟩
              refine Rg.enter_fn (args := #[.int .i64 (1)]) rfl (by simp only [List.map_toArray, List.map_cons, List.map_nil, Rg.ev]) (by kernel_rfl) ?_
              refine (rfails_b (1) W).mono ?_
              rintro e_ w9 ⟨rfl, hxx⟩
              exact ⟨_, rfl, rfl, hR.trans' hxx, hxx⟩
            trivial
          case en =>
            intro tm W hR hsz hk
            rw [Rg.fin_eq (ds := [93, 94]) rfl rfl rfl hsz hk]
            have k93 : tm.getD 93 undef = .agg #[.int .u64 s.now, .int .u64 s.count, .slice A s.links.length c0, .slice B s.sess.length d0] := hk 93
            have k94 : tm.getD 94 undef = .agg #[.int .i64 (1), str ([])] := hk 94
            clear hk hsz
            simp only [Rg.putAll, List.setIfInBounds_toArray, List.set_cons_zero, List.set_cons_succ, k93, k94]
            clear k93
            clear k94
            replace hB := hB.ext hR
            replace hR_ := hR_.ext hR
            replace hA := hA.ext hR
            replace hrq := stE.ext hrq hR
            replace hxw := hxw.trans' hR
            have r_0 := (hR_.cell 0).trans rfl
            have r_1 := (hR_.cell 1).trans rfl
            have r_2 := (hR_.cell 2).trans rfl
            have r_3 := (hR_.cell 3).trans rfl
            have rf_0 := hR_.frozen 0
            have rf_1 := hR_.frozen 1
            have rf_2 := hR_.frozen 2
            have rf_3 := hR_.frozen 3
            have ra_0 := (hA.cell 0).trans rfl
            have ra_1 := (hA.cell 1).trans rfl
            have raf_0 := hA.frozen 0
            have raf_1 := hA.frozen 1
            obtain ⟨hF4, hF5, hFr, hFx⟩ := fin_do hR_ hA hxw hgw hrq (e := 1) (tx := [])
            go_wp2
            try simp only [Exit.inBlock, Exit.then]
            refine bodyPost_ret (results_cell_cell rfl _ _ (g + 1 + 1) (g + 1 + 1 + 1) 28 33 #[.int .u64 s.now, .int .u64 s.count, .slice A s.links.length c0, .slice B s.sess.length d0] #[.int .i64 (1), str ([])] (0, 0) (0, 0) _ _ rfl hF4 Try.underlying28 rfl (by kernel_rfl) rfl hF5 Try.underlying33 rfl (by kernel_rfl)) rfl ?_
            exact ⟨s, ⟨1, []⟩, _, _, _, _, hide (by rw [← HRR.out]; unfold rdo ldoW; rw [if_neg H4.out, if_neg H1.out, if_neg H2.out, if_neg H3.out]), rfl, hFr, hFx⟩
end Go.Proofs.Ytggfemdgccgbpaa

/- LinksAll. -/
namespace Go.Proofs.Ytggfemdgccgbpaa
set_option linter.unusedVariables false
set_option linter.unusedSimpArgs false
set_option linter.unnecessarySimpa false
set_option maxRecDepth 100000
open Go.RowKit
abbrev XA (g1 g2 ga gb : Nat) : Avoid := fun j => j = g1 ∨ j = g2 ∨ j = ga ∨ j = gb
set_option maxHeartbeats 12800000 in
theorem linksAll_walk (x : Value) (b : Bytes) (w : World) (hx : Bs w x b) :
    Calls Try.prog 3 #[x] w fun e w' => e = .returned (.bool true) ∧ Ext w w' := by
  obtain ⟨Ax, cx, rfl, -, -, -⟩ := id hx
  go_enter Try.func3, Try.ntmps3
  go_wp2_with fail
  refine (begun18_b w).mono ?_
  rintro e w1 ⟨rfl, hx1⟩
  by_cases h1 : (120 : Int) < b.length
  · go_wp2_with fail
    go_ret
    exact ⟨rfl, hx1⟩
  have HB := hide h1
  obtain ⟨hS, hT, hz⟩ := two_al w1 28 28 #[.int .u64 0, .int .u64 0, .slice none 0 0, .slice none 0 0] #[.int .u64 0, .int .u64 0, .slice none 0 0, .slice none 0 0]
  obtain ⟨g1, hg⟩ : ∃ g_, w1.heap.size = g_ := ⟨_, rfl⟩
  rw [hg] at hS hT
  obtain ⟨g2, hg2⟩ : ∃ g_, g1 + 1 = g_ := ⟨_, rfl⟩
  rw [hg2] at hT
  have hx2 := hx1.trans' hz
  have hw1 : w.heap.size ≤ g1 := by have := hx1.size; omega
  go_upto_region 6 with fail
  try rw [hg]
  try rw [hg2]
  clear hg hz
  generalize ((w1.alloc (.cells #[.int .u64 0, .int .u64 0, .slice none 0 0, .slice none 0 0] 28)).alloc (.cells #[.int .u64 0, .int .u64 0, .slice none 0 0, .slice none 0 0] 28)) = w2 at *
  go_wp2_with fail
  refine (cmds_b _ b 30 _ (hx.ext hx2) (by have := HB.out; omega) (by omega)).mono ?_
  rintro e w0 ⟨l, A, c, hpc, hlen, rfl, hown, hx3⟩
  replace hS := hS.ext hx3
  replace hT := hT.ext hx3
  go_wp2_with fail
  go_loopw [6] (fun i wr => ∃ (k : Nat) (s : St) (A1 : Option Addr) (c1 : Nat) (B1 : Option Addr) (d1 : Nat) (A2 : Option Addr) (c2 : Nat) (B2 : Option Addr) (d2 : Nat), k ≤ l.length ∧ i = .int .i64 k ∧ Blk wr g1 28 #[.int .u64 s.now, .int .u64 s.count, .slice A1 s.links.length c1, .slice B1 s.sess.length d1] ∧ Blk wr g2 28 #[.int .u64 s.now, .int .u64 s.count, .slice A2 s.links.length c2, .slice B2 s.sess.length d2] ∧
      stE.rep wr (fun j => j = g1 ∨ j = g2) [.int .u64 s.now, .int .u64 s.count, .slice A1 s.links.length c1, .slice B1 s.sess.length d1] s ∧ stE.rep wr (fun j => j = g1 ∨ j = g2) [.int .u64 s.now, .int .u64 s.count, .slice A2 s.links.length c2, .slice B2 s.sess.length d2] s ∧ LInv s ∧ s.sess = [] ∧ Own 37 cmE w2 wr noneAt (.slice A l.length c) l ∧ Ext w wr) (fun i _ => (l.length - intOf i).toNat)
  case atStart => exact ⟨0, ⟨0, 0, [], []⟩, none, 0, none, 0, none, 0, none, 0, by omega, rfl, hS, hT, stN_rep _ _, stN_rep _ _, linv0, rfl, hown, hx2.trans' hx3⟩
  case round =>
    clear hS hT
    obtain ⟨k, s, A1, c1, B1, d1, A2, c2, B2, d2, hkl, rfl, hS, hT, hrS, hrT, hi, hse, hown, hxr⟩ := hrel
    by_cases hlt : k < l.length
    · obtain ⟨ga, hg⟩ : ∃ g_, wr.heap.size = g_ := ⟨_, rfl⟩
      obtain ⟨hA, hB, hz⟩ := two_al wr 33 33 #[.int .i64 0, str []] #[.int .i64 0, str []]
      rw [hg] at hA hB
      obtain ⟨gb, hgb⟩ : ∃ g_, ga + 1 = g_ := ⟨_, rfl⟩
      rw [hgb] at hB
      have o1 : g2 < ga := by have := hT.lt; omega
      have o2 : w.heap.size ≤ ga := by have := hxr.size; omega
      have m1 : ¬ g1 = ga := by omega
      have m2 : ¬ ga = g1 := by omega
      have m3 : ¬ g1 = gb := by omega
      have m4 : ¬ gb = g1 := by omega
      have m5 : ¬ g2 = ga := by omega
      have m6 : ¬ ga = g2 := by omega
      have m7 : ¬ g2 = gb := by omega
      have m8 : ¬ gb = g2 := by omega
      have m9 : ¬ ga = gb := by omega
      have m10 : ¬ gb = ga := by omega
      have HSE := hide hse
      clear hse
      replace hS := hS.ext hz
      replace hT := hT.ext hz
      replace hrS := stE.ext (stE.mono hrS (Y := XA g1 g2 ga gb) (fun j hj h => by rcases h with h | h | h | h <;> omega)) hz
      replace hrT := stE.ext (stE.mono hrT (Y := XA g1 g2 ga gb) (fun j hj h => by rcases h with h | h | h | h <;> omega)) hz
      replace hown := hown.ext hz
      replace hxr := hxr.trans' hz
      go_upto_region 11 with fail
      try rw [hg]
      try rw [hgb]
      clear hz hg
      generalize ((wr.alloc (.cells #[.int .i64 0, str []] 33)).alloc (.cells #[.int .i64 0, str []] 33)) = w3 at *
      obtain ⟨ad, m, rfl, hm, hbk, p0, p1, p2, p3, p4, p5, hmw⟩ := cm_at hown.sl hlt
      have hpm := hpc m (List.mem_of_getElem? hm.out)
      have hXg : ∀ W, Ext w3 W → ∀ k, XA g1 g2 ga gb k → k < W.heap.size := fun W hx k hk => Nat.lt_of_lt_of_le (hk.elim (fun h => h ▸ hS.lt) fun h => h.elim (fun h => h ▸ hT.lt) fun h => h.elim (fun h => h ▸ hA.lt) fun h => h ▸ hB.lt) hx.size
      have HD := hide (fun W (hx : Ext w3 W) => ldoL_b (XA g1 g2 ga gb) s _ m W (hXg W hx) (stE.ext hrS hx) hi HSE.out hmw (Nat.le_trans hpm.url (by decide)) (Nat.le_trans hpm.name (by decide)))
      have HD2 := hide (fun W (hx : ∀ k, XA g1 g2 ga gb k → k < W.heap.size) A c B d hs => lrdo_b (XA g1 g2 ga gb) s A c B d m W hx hs hmw (Nat.le_trans hpm.name (by decide)) (by have := hi.len; omega))
      rw [ldo_rdo hi m] at HD2
      have hi1 := hi.step (c := m) hpm.t0
      have hse1 := (ldo_sess s m).trans HSE.out
      obtain ⟨⟨t, a⟩, hta⟩ : ∃ r, ldo s m = r := ⟨_, rfl⟩
      rw [hta] at HD HD2 hi1 hse1
      simp only at hi1 hse1
      clear hta
      have hb1 : (0 : Int) ≤ k := by omega
      have hb2 : (k : Int) < l.length := by omega
      have HLT := hide hlt
      have HS1 := hide hse1
      have HI1 := hide hi1
      clear hse1 hi1 hlt
      go_cut [] (fun wx => ∃ A3 c3 B3 d3, Blk wx g1 28 #[.int .u64 t.now, .int .u64 t.count, .slice A3 t.links.length c3, .slice B3 t.sess.length d3] ∧ Blk wx g2 28 #[.int .u64 s.now, .int .u64 s.count, .slice A2 s.links.length c2, .slice B2 s.sess.length d2] ∧ Blk wx ga 33 #[.int .i64 a.err, str a.text] ∧ Blk wx gb 33 #[.int .i64 0, str []] ∧ stE.rep wx (XA g1 g2 ga gb) [.int .u64 t.now, .int .u64 t.count, .slice A3 t.links.length c3, .slice B3 t.sess.length d3] t ∧ stE.rep wx (XA g1 g2 ga gb) [.int .u64 s.now, .int .u64 s.count, .slice A2 s.links.length c2, .slice B2 s.sess.length d2] s ∧ Own 37 cmE w2 wx noneAt (.slice (some ad) l.length c) l ∧ Ext w wx)
      case first =>
        refine Rg.regionX Try.checked.mixed 49 9 8 30 _ _ (by rfl) (by rfl) (by kernel_rfl) [
          (fun x_ _ => x_ = .agg #[.int .u64 s.now, .int .u64 s.count, .slice A1 s.links.length c1, .slice B1 s.sess.length d1]),
          (fun x_ _ => x_ = .slice (some ad) l.length c),
          (fun x_ _ => x_ = .int .i64 k),
          (fun x_ _ => x_ = .pointer (some (ad.add (k * 6)))),
          (fun x_ _ => x_ = .agg #[.int .i64 m.kind, .int .i64 m.client, .int .u64 m.seq, str m.name, str m.url, .int .u64 m.till]),
          (fun v W => ∃ A9 c9 B9 d9, v = .tuple #[.agg #[.int .u64 t.now, .int .u64 t.count, .slice A9 t.links.length c9, .slice B9 t.sess.length d9], .agg #[.int .i64 a.err, str a.text]] ∧ stE.rep W (XA g1 g2 ga gb) [.int .u64 t.now, .int .u64 t.count, .slice A9 t.links.length c9, .slice B9 t.sess.length d9] t),
          (fun v W => ∃ A9 c9 B9 d9, v = .tuple #[.agg #[.int .u64 t.now, .int .u64 t.count, .slice A9 t.links.length c9, .slice B9 t.sess.length d9], .agg #[.int .i64 a.err, str a.text]] ∧ stE.rep W (XA g1 g2 ga gb) [.int .u64 t.now, .int .u64 t.count, .slice A9 t.links.length c9, .slice B9 t.sess.length d9] t),
          (fun v W => ∃ A9 c9 B9 d9, v = .agg #[.int .u64 t.now, .int .u64 t.count, .slice A9 t.links.length c9, .slice B9 t.sess.length d9] ∧ stE.rep W (XA g1 g2 ga gb) [.int .u64 t.now, .int .u64 t.count, .slice A9 t.links.length c9, .slice B9 t.sess.length d9] t),
          (fun x_ _ => x_ = .agg #[.int .i64 a.err, str a.text])] (fun W => Ext w3 W) Ext rfl rfl rfl
          ?st ((Ext.rfl' w3).drew') ?ob ?en ?en2
        case st => exact ⟨fun _ _ _ h _ => h, fun _ _ _ h _ => h, fun _ _ _ h _ => h, fun _ _ _ h _ => h, fun _ _ _ h _ => h, fun _ _ _ ⟨a1_, a2_, a3_, a4_, h1_, h2_⟩ hx => ⟨a1_, a2_, a3_, a4_, h1_, stE.ext h2_ hx⟩, fun _ _ _ ⟨a1_, a2_, a3_, a4_, h1_, h2_⟩ hx => ⟨a1_, a2_, a3_, a4_, h1_, stE.ext h2_ hx⟩, fun _ _ _ ⟨a1_, a2_, a3_, a4_, h1_, h2_⟩ hx => ⟨a1_, a2_, a3_, a4_, h1_, stE.ext h2_ hx⟩, fun _ _ _ h _ => h, trivial⟩
        case ob =>
          refine ⟨Rg.at_run [3] rfl ?_, ?_⟩
          · intro ρ W hR ⟨q3, _⟩
            replace q3 : ρ 3 = .pointer (some ⟨g1, 0, none⟩) := q3
            refine ⟨rfl, ?_⟩
            have c0_ : W.cell? ⟨g1, 0, none⟩ = some (.int .u64 s.now) := ((hS.ext hR).cell 0).trans rfl
            have c1_ : W.cell? ⟨g1, 1, none⟩ = some (.int .u64 s.count) := ((hS.ext hR).cell 1).trans rfl
            have c2_ : W.cell? ⟨g1, 2, none⟩ = some (.slice A1 s.links.length c1) := ((hS.ext hR).cell 2).trans rfl
            have c3_ : W.cell? ⟨g1, 3, none⟩ = some (.slice B1 s.sess.length d1) := ((hS.ext hR).cell 3).trans rfl
            exact Rg.run_ok (v := .agg #[.int .u64 s.now, .int .u64 s.count, .slice A1 s.links.length c1, .slice B1 s.sess.length d1]) (by simp [execOp, Rg.ev, go_sem, q3, c0_, c1_, c2_, c3_]) ⟨rfl, hR, Ext.rfl' _⟩
          refine ⟨Rg.at_run [5] rfl ?_, ?_⟩
          · intro ρ W hR ⟨q5, _⟩
            replace q5 : ρ 5 = .slice (some ad) l.length c := q5
            refine ⟨rfl, ?_⟩
            exact Rg.run_ok (v := .slice (some ad) l.length c) (by simp [execOp, Rg.ev, go_sem, q5]) ⟨rfl, hR, Ext.rfl' _⟩
          refine ⟨Rg.at_run [6] rfl ?_, ?_⟩
          · intro ρ W hR ⟨q6, _⟩
            replace q6 : ρ 6 = .int .i64 k := q6
            refine ⟨rfl, ?_⟩
            exact Rg.run_ok (v := .int .i64 k) (by simp [execOp, Rg.ev, go_sem, q6]) ⟨rfl, hR, Ext.rfl' _⟩
          refine ⟨Rg.at_run [24, 25] rfl ?_, ?_⟩
          · intro ρ W hR ⟨q24, q25, _⟩
            replace q24 : ρ 24 = .slice (some ad) l.length c := q24
            replace q25 : ρ 25 = .int .i64 k := q25
            refine ⟨rfl, ?_⟩
            exact Rg.run_ok (v := .pointer (some (ad.add (k * 6)))) (by simp [execOp, Rg.ev, go_sem, q24, q25, hb1, hb2]) ⟨rfl, hR, Ext.rfl' _⟩
          refine ⟨Rg.at_run [26] rfl ?_, ?_⟩
          · intro ρ W hR ⟨q26, _⟩
            replace q26 : ρ 26 = .pointer (some (ad.add (k * 6))) := q26
            refine ⟨rfl, ?_⟩
            have hab_ : (ad.add (k * 6)).block < w3.heap.size := by rw [block_of_add]; exact hbk
            have c0_ : W.cell? (ad.add (k * 6)) = some (.int .i64 m.kind) := (hR.cell (p := (ad.add (k * 6))) hab_).trans p0
            have c1_ : W.cell? ⟨(ad.add (k * 6)).block, (ad.add (k * 6)).off + 1, none⟩ = some (.int .i64 m.client) := (hR.cell (p := ⟨(ad.add (k * 6)).block, (ad.add (k * 6)).off + 1, none⟩) hab_).trans p1
            have c2_ : W.cell? ⟨(ad.add (k * 6)).block, (ad.add (k * 6)).off + 2, none⟩ = some (.int .u64 m.seq) := (hR.cell (p := ⟨(ad.add (k * 6)).block, (ad.add (k * 6)).off + 2, none⟩) hab_).trans p2
            have c3_ : W.cell? ⟨(ad.add (k * 6)).block, (ad.add (k * 6)).off + 3, none⟩ = some (str m.name) := (hR.cell (p := ⟨(ad.add (k * 6)).block, (ad.add (k * 6)).off + 3, none⟩) hab_).trans p3
            have c4_ : W.cell? ⟨(ad.add (k * 6)).block, (ad.add (k * 6)).off + 4, none⟩ = some (str m.url) := (hR.cell (p := ⟨(ad.add (k * 6)).block, (ad.add (k * 6)).off + 4, none⟩) hab_).trans p4
            have c5_ : W.cell? ⟨(ad.add (k * 6)).block, (ad.add (k * 6)).off + 5, none⟩ = some (.int .u64 m.till) := (hR.cell (p := ⟨(ad.add (k * 6)).block, (ad.add (k * 6)).off + 5, none⟩) hab_).trans p5
            exact Rg.run_ok (v := .agg #[.int .i64 m.kind, .int .i64 m.client, .int .u64 m.seq, str m.name, str m.url, .int .u64 m.till]) (by simp [execOp, Rg.ev, go_sem, q26, c0_, c1_, c2_, c3_, c4_, c5_]) ⟨rfl, hR, Ext.rfl' _⟩
          refine ⟨Rg.at_run [23, 27] rfl ?_, ?_⟩
          · intro ρ W hR ⟨q23, q27, _⟩
            replace q23 : ρ 23 = .agg #[.int .u64 s.now, .int .u64 s.count, .slice A1 s.links.length c1, .slice B1 s.sess.length d1] := q23
            replace q27 : ρ 27 = .agg #[.int .i64 m.kind, .int .i64 m.client, .int .u64 m.seq, str m.name, str m.url, .int .u64 m.till] := q27
            refine ⟨rfl, ?_⟩
            refine Rg.enter_fn (args := #[.agg #[.int .u64 s.now, .int .u64 s.count, .slice A1 s.links.length c1, .slice B1 s.sess.length d1], .agg #[.int .i64 m.kind, .int .i64 m.client, .int .u64 m.seq, str m.name, str m.url, .int .u64 m.till]]) rfl (by simp only [List.map_toArray, List.map_cons, List.map_nil, Rg.ev, q23, q27]) (by kernel_rfl) ?_
            refine (HD.out W hR).mono ?_
            rintro e_ w9 ⟨t_, a_, A9, c9, B9, d9, h1_, rfl, h2_, hxx⟩
            obtain ⟨rfl, rfl⟩ := Prod.mk.inj h1_.out
            exact ⟨_, rfl, ⟨A9, c9, B9, d9, rfl, h2_⟩, hR.trans' hxx, hxx⟩
          refine ⟨Rg.at_run [28] rfl ?_, ?_⟩
          · intro ρ W hR ⟨q28, _⟩
            replace q28 : (fun v W => ∃ A9 c9 B9 d9, v = .tuple #[.agg #[.int .u64 t.now, .int .u64 t.count, .slice A9 t.links.length c9, .slice B9 t.sess.length d9], .agg #[.int .i64 a.err, str a.text]] ∧ stE.rep W (XA g1 g2 ga gb) [.int .u64 t.now, .int .u64 t.count, .slice A9 t.links.length c9, .slice B9 t.sess.length d9] t) (ρ 28) W := q28
            refine ⟨rfl, ?_⟩
            exact Rg.run_ok (by simp [execOp, Rg.ev, go_sem] <;> rfl) ⟨q28, hR, Ext.rfl' _⟩
          refine ⟨Rg.at_run [22] rfl ?_, ?_⟩
          · intro ρ W hR ⟨q22, _⟩
            replace q22 : (fun v W => ∃ A9 c9 B9 d9, v = .tuple #[.agg #[.int .u64 t.now, .int .u64 t.count, .slice A9 t.links.length c9, .slice B9 t.sess.length d9], .agg #[.int .i64 a.err, str a.text]] ∧ stE.rep W (XA g1 g2 ga gb) [.int .u64 t.now, .int .u64 t.count, .slice A9 t.links.length c9, .slice B9 t.sess.length d9] t) (ρ 22) W := q22
            refine ⟨rfl, ?_⟩
            obtain ⟨A9, c9, B9, d9, hv_, hr_⟩ := q22
            exact Rg.run_ok (v := .agg #[.int .u64 t.now, .int .u64 t.count, .slice A9 t.links.length c9, .slice B9 t.sess.length d9]) (by simp [execOp, Rg.ev, go_sem, hv_]) ⟨⟨A9, c9, B9, d9, rfl, hr_⟩, hR, Ext.rfl' _⟩
          refine ⟨Rg.at_run [22] rfl ?_, ?_⟩
          · intro ρ W hR ⟨q22, _⟩
            replace q22 : (fun v W => ∃ A9 c9 B9 d9, v = .tuple #[.agg #[.int .u64 t.now, .int .u64 t.count, .slice A9 t.links.length c9, .slice B9 t.sess.length d9], .agg #[.int .i64 a.err, str a.text]] ∧ stE.rep W (XA g1 g2 ga gb) [.int .u64 t.now, .int .u64 t.count, .slice A9 t.links.length c9, .slice B9 t.sess.length d9] t) (ρ 22) W := q22
            refine ⟨rfl, ?_⟩
            obtain ⟨A9, c9, B9, d9, hv_, hr_⟩ := q22
            exact Rg.run_ok (v := .agg #[.int .i64 a.err, str a.text]) (by simp [execOp, Rg.ev, go_sem, hv_]) ⟨rfl, hR, Ext.rfl' _⟩
          trivial
        case en =>
          intro tm W hR hsz hk
          rw [Rg.fin_eq (ds := [23, 24, 25, 26, 27, 28, 22, 29, 30]) rfl rfl rfl hsz hk]
          have k22 : (fun v W => ∃ A9 c9 B9 d9, v = .tuple #[.agg #[.int .u64 t.now, .int .u64 t.count, .slice A9 t.links.length c9, .slice B9 t.sess.length d9], .agg #[.int .i64 a.err, str a.text]] ∧ stE.rep W (XA g1 g2 ga gb) [.int .u64 t.now, .int .u64 t.count, .slice A9 t.links.length c9, .slice B9 t.sess.length d9] t) (tm.getD 22 undef) W := hk 22
          have k23 : tm.getD 23 undef = .agg #[.int .u64 s.now, .int .u64 s.count, .slice A1 s.links.length c1, .slice B1 s.sess.length d1] := hk 23
          have k24 : tm.getD 24 undef = .slice (some ad) l.length c := hk 24
          have k25 : tm.getD 25 undef = .int .i64 k := hk 25
          have k26 : tm.getD 26 undef = .pointer (some (ad.add (k * 6))) := hk 26
          have k27 : tm.getD 27 undef = .agg #[.int .i64 m.kind, .int .i64 m.client, .int .u64 m.seq, str m.name, str m.url, .int .u64 m.till] := hk 27
          have k28 : (fun v W => ∃ A9 c9 B9 d9, v = .tuple #[.agg #[.int .u64 t.now, .int .u64 t.count, .slice A9 t.links.length c9, .slice B9 t.sess.length d9], .agg #[.int .i64 a.err, str a.text]] ∧ stE.rep W (XA g1 g2 ga gb) [.int .u64 t.now, .int .u64 t.count, .slice A9 t.links.length c9, .slice B9 t.sess.length d9] t) (tm.getD 28 undef) W := hk 28
          have k29 : (fun v W => ∃ A9 c9 B9 d9, v = .agg #[.int .u64 t.now, .int .u64 t.count, .slice A9 t.links.length c9, .slice B9 t.sess.length d9] ∧ stE.rep W (XA g1 g2 ga gb) [.int .u64 t.now, .int .u64 t.count, .slice A9 t.links.length c9, .slice B9 t.sess.length d9] t) (tm.getD 29 undef) W := hk 29
          have k30 : tm.getD 30 undef = .agg #[.int .i64 a.err, str a.text] := hk 30
          clear hk hsz
          simp only [Rg.putAll, List.setIfInBounds_toArray, List.set_cons_zero, List.set_cons_succ, k23, k24, k25, k26, k27, k30]
          generalize tm.getD 22 undef = u22 at *
          clear k23
          clear k24
          clear k25
          clear k26
          clear k27
          generalize tm.getD 28 undef = u28 at *
          generalize tm.getD 29 undef = u29 at *
          clear k30
          clear k22 k28
          obtain ⟨A9, c9, B9, d9, rfl, hrep1⟩ := k29
          replace hS := hS.ext hR
          replace hT := hT.ext hR
          replace hA := hA.ext hR
          replace hB := hB.ext hR
          replace hown := hown.ext hR
          replace hrS := stE.ext hrS hR
          replace hrT := stE.ext hrT hR
          replace hxr := hxr.trans' hR
          have l0 := (hS.cell 0).trans rfl
          have n0_ := hS.frozen 0
          have l1 := (hS.cell 1).trans rfl
          have n1_ := hS.frozen 1
          have l2 := (hS.cell 2).trans rfl
          have n2_ := hS.frozen 2
          have l3 := (hS.cell 3).trans rfl
          have n3_ := hS.frozen 3
          have a0 := (hA.cell 0).trans rfl
          have b0 := hA.frozen 0
          have a1 := (hA.cell 1).trans rfl
          have b1 := hA.frozen 1
          have hcg : Chg [g1] W _ := (Chg.refl [g1] W).four (g := g1) (by simp) (.int .u64 t.now) (.int .u64 t.count) (.slice A9 t.links.length c9) (.slice B9 t.sess.length d9)
          have hX1 := Blk.four hS (.int .u64 t.now) (.int .u64 t.count) (.slice A9 t.links.length c9) (.slice B9 t.sess.length d9)
          have hY1 := Blk.two_ (hA.chg hcg (by simp; omega)) (.int .i64 a.err) (str a.text)
          have hc2 : Chg [ga] _ _ := (Chg.refl [ga] ((((W.setCell ⟨g1, 0, none⟩ (.int .u64 t.now)).setCell ⟨g1, 1, none⟩ (.int .u64 t.count)).setCell ⟨g1, 2, none⟩ (.slice A9 t.links.length c9)).setCell ⟨g1, 3, none⟩ (.slice B9 t.sess.length d9))).two_ (g := ga) (by simp) (.int .i64 a.err) (str a.text)
          have hX2 := hX1.chg hc2 (by simp; omega)
          have hT2 := (hT.chg hcg (by simp; omega)).chg hc2 (by simp; omega)
          have hB2 := (hB.chg hcg (by simp; omega)).chg hc2 (by simp; omega)
          have hrN := stE.chg (stE.chg hrep1 hcg (fun j hj _ => .inl (by simpa using hj))) hc2 (fun j hj _ => .inr (.inr (.inl (by simpa using hj))))
          have hrO := stE.chg (stE.chg hrT hcg (fun j hj _ => .inl (by simpa using hj))) hc2 (fun j hj _ => .inr (.inr (.inl (by simpa using hj))))
          have hown2 := (hown.chgT hS (by decide) hcg (fun h => cm_any h)).chgT (hA.chg hcg (by simp; omega)) (by decide) hc2 (fun h => cm_any h)
          have hx2 := (hxr.then_ hcg (by simp; omega)).then_ hc2 (by simp; omega)
          go_wp2_with fail
          go_meet
          case rel => exact ⟨A9, c9, B9, d9, hX2, hT2, hY1, hB2, hrN, hrO, hown2, hx2⟩
        case en2 =>
          intro tm W hR hsz hk
          rw [Rg.fin_eqX (ds := [23, 24, 25, 26, 27, 28, 22, 29, 30]) rfl (by decide) rfl rfl hsz hk]
          have k22 : (fun v W => ∃ A9 c9 B9 d9, v = .tuple #[.agg #[.int .u64 t.now, .int .u64 t.count, .slice A9 t.links.length c9, .slice B9 t.sess.length d9], .agg #[.int .i64 a.err, str a.text]] ∧ stE.rep W (XA g1 g2 ga gb) [.int .u64 t.now, .int .u64 t.count, .slice A9 t.links.length c9, .slice B9 t.sess.length d9] t) (tm.getD 22 undef) W := hk 22
          have k23 : tm.getD 23 undef = .agg #[.int .u64 s.now, .int .u64 s.count, .slice A1 s.links.length c1, .slice B1 s.sess.length d1] := hk 23
          have k24 : tm.getD 24 undef = .slice (some ad) l.length c := hk 24
          have k25 : tm.getD 25 undef = .int .i64 k := hk 25
          have k26 : tm.getD 26 undef = .pointer (some (ad.add (k * 6))) := hk 26
          have k27 : tm.getD 27 undef = .agg #[.int .i64 m.kind, .int .i64 m.client, .int .u64 m.seq, str m.name, str m.url, .int .u64 m.till] := hk 27
          have k28 : (fun v W => ∃ A9 c9 B9 d9, v = .tuple #[.agg #[.int .u64 t.now, .int .u64 t.count, .slice A9 t.links.length c9, .slice B9 t.sess.length d9], .agg #[.int .i64 a.err, str a.text]] ∧ stE.rep W (XA g1 g2 ga gb) [.int .u64 t.now, .int .u64 t.count, .slice A9 t.links.length c9, .slice B9 t.sess.length d9] t) (tm.getD 28 undef) W := hk 28
          have k29 : (fun v W => ∃ A9 c9 B9 d9, v = .agg #[.int .u64 t.now, .int .u64 t.count, .slice A9 t.links.length c9, .slice B9 t.sess.length d9] ∧ stE.rep W (XA g1 g2 ga gb) [.int .u64 t.now, .int .u64 t.count, .slice A9 t.links.length c9, .slice B9 t.sess.length d9] t) (tm.getD 29 undef) W := hk 29
          clear hk hsz
          simp only [Rg.putAll, List.setIfInBounds_toArray, List.set_cons_zero, List.set_cons_succ, k23, k24, k25, k26, k27]
          generalize tm.getD 22 undef = u22 at *
          clear k23
          clear k24
          clear k25
          clear k26
          clear k27
          generalize tm.getD 28 undef = u28 at *
          generalize tm.getD 29 undef = u29 at *
          generalize tm.getD 30 undef = u30 at *
          clear k28
          obtain ⟨A9, c9, B9, d9, rfl, hrep1⟩ := k29
          replace hS := hS.ext hR
          replace hT := hT.ext hR
          replace hA := hA.ext hR
          replace hB := hB.ext hR
          replace hown := hown.ext hR
          replace hrS := stE.ext hrS hR
          replace hrT := stE.ext hrT hR
          replace hxr := hxr.trans' hR
          have l0 := (hS.cell 0).trans rfl
          have n0_ := hS.frozen 0
          have l1 := (hS.cell 1).trans rfl
          have n1_ := hS.frozen 1
          have l2 := (hS.cell 2).trans rfl
          have n2_ := hS.frozen 2
          have l3 := (hS.cell 3).trans rfl
          have n3_ := hS.frozen 3
          have a0 := (hA.cell 0).trans rfl
          have b0 := hA.frozen 0
          have a1 := (hA.cell 1).trans rfl
          have b1 := hA.frozen 1
          have hcg : Chg [g1] W _ := (Chg.refl [g1] W).four (g := g1) (by simp) (.int .u64 t.now) (.int .u64 t.count) (.slice A9 t.links.length c9) (.slice B9 t.sess.length d9)
          have hX1 := Blk.four hS (.int .u64 t.now) (.int .u64 t.count) (.slice A9 t.links.length c9) (.slice B9 t.sess.length d9)
          have hY1 := Blk.two_ (hA.chg hcg (by simp; omega)) (.int .i64 a.err) (str a.text)
          have hc2 : Chg [ga] _ _ := (Chg.refl [ga] ((((W.setCell ⟨g1, 0, none⟩ (.int .u64 t.now)).setCell ⟨g1, 1, none⟩ (.int .u64 t.count)).setCell ⟨g1, 2, none⟩ (.slice A9 t.links.length c9)).setCell ⟨g1, 3, none⟩ (.slice B9 t.sess.length d9))).two_ (g := ga) (by simp) (.int .i64 a.err) (str a.text)
          have hX2 := hX1.chg hc2 (by simp; omega)
          have hT2 := (hT.chg hcg (by simp; omega)).chg hc2 (by simp; omega)
          have hB2 := (hB.chg hcg (by simp; omega)).chg hc2 (by simp; omega)
          have hrN := stE.chg (stE.chg hrep1 hcg (fun j hj _ => .inl (by simpa using hj))) hc2 (fun j hj _ => .inr (.inr (.inl (by simpa using hj))))
          have hrO := stE.chg (stE.chg hrT hcg (fun j hj _ => .inl (by simpa using hj))) hc2 (fun j hj _ => .inr (.inr (.inl (by simpa using hj))))
          have hown2 := (hown.chgT hS (by decide) hcg (fun h => cm_any h)).chgT (hA.chg hcg (by simp; omega)) (by decide) hc2 (fun h => cm_any h)
          have hx2 := (hxr.then_ hcg (by simp; omega)).then_ hc2 (by simp; omega)
          obtain ⟨A8, c8, B8, d8, hv_, -⟩ := k22
          rw [hv_]
          clear hv_
          simp only [List.drop_succ_cons, List.drop_zero]
          go_wp2_with fail
          go_meet
          case rel => exact ⟨A9, c9, B9, d9, hX2, hT2, hY1, hB2, hrN, hrO, hown2, hx2⟩
      case rest =>
        clear hS hT hA hB hrS hrT hown p0 p1 p2 p3 p4 p5 hbk HD hxr
        obtain ⟨A3, c3, B3, d3, hS, hT, hA, hB, hrS, hrT, hown, hxr⟩ := hcut
        generalize wc = w5 at *
        obtain ⟨ad', m', had, hm', hbk, p0, p1, p2, p3, p4, p5, -⟩ := cm_at hown.sl HLT.out
        obtain rfl := Option.some.inj had
        obtain rfl : m = m' := Option.some.inj (hm.out.symm.trans hm'.out)
        have HD3 := hide (fun W (hx : Ext w5 W) => HD2.out W (fun k hk => Nat.lt_of_lt_of_le (hk.elim (fun h => h ▸ hS.lt) fun h => h.elim (fun h => h ▸ hT.lt) fun h => h.elim (fun h => h ▸ hA.lt) fun h => h ▸ hB.lt) hx.size) A2 c2 B2 d2 (stE.ext hrT hx))
        go_upto_region 12 with fail
        go_cut [] (fun wx => ∃ A4 c4 B4 d4, Blk wx g1 28 #[.int .u64 t.now, .int .u64 t.count, .slice A3 t.links.length c3, .slice B3 t.sess.length d3] ∧ Blk wx g2 28 #[.int .u64 t.now, .int .u64 t.count, .slice A4 t.links.length c4, .slice B4 t.sess.length d4] ∧ Blk wx ga 33 #[.int .i64 a.err, str a.text] ∧ Blk wx gb 33 #[.int .i64 a.err, str a.text] ∧ stE.rep wx (XA g1 g2 ga gb) [.int .u64 t.now, .int .u64 t.count, .slice A3 t.links.length c3, .slice B3 t.sess.length d3] t ∧ stE.rep wx (XA g1 g2 ga gb) [.int .u64 t.now, .int .u64 t.count, .slice A4 t.links.length c4, .slice B4 t.sess.length d4] t ∧ Own 37 cmE w2 wx noneAt (.slice (some ad) l.length c) l ∧ Ext w wx)
        case first =>
          refine Rg.regionX Try.checked.mixed 49 9 8 39 _ _ (by rfl) (by rfl) (by kernel_rfl) [
            (fun x_ _ => x_ = .agg #[.int .u64 s.now, .int .u64 s.count, .slice A2 s.links.length c2, .slice B2 s.sess.length d2]),
            (fun x_ _ => x_ = .slice (some ad) l.length c),
            (fun x_ _ => x_ = .int .i64 k),
            (fun x_ _ => x_ = .pointer (some (ad.add (k * 6)))),
            (fun x_ _ => x_ = .agg #[.int .i64 m.kind, .int .i64 m.client, .int .u64 m.seq, str m.name, str m.url, .int .u64 m.till]),
            (fun v W => ∃ A9 c9 B9 d9, v = .tuple #[.agg #[.int .u64 t.now, .int .u64 t.count, .slice A9 t.links.length c9, .slice B9 t.sess.length d9], .agg #[.int .i64 a.err, str a.text]] ∧ stE.rep W (XA g1 g2 ga gb) [.int .u64 t.now, .int .u64 t.count, .slice A9 t.links.length c9, .slice B9 t.sess.length d9] t),
            (fun v W => ∃ A9 c9 B9 d9, v = .tuple #[.agg #[.int .u64 t.now, .int .u64 t.count, .slice A9 t.links.length c9, .slice B9 t.sess.length d9], .agg #[.int .i64 a.err, str a.text]] ∧ stE.rep W (XA g1 g2 ga gb) [.int .u64 t.now, .int .u64 t.count, .slice A9 t.links.length c9, .slice B9 t.sess.length d9] t),
            (fun v W => ∃ A9 c9 B9 d9, v = .agg #[.int .u64 t.now, .int .u64 t.count, .slice A9 t.links.length c9, .slice B9 t.sess.length d9] ∧ stE.rep W (XA g1 g2 ga gb) [.int .u64 t.now, .int .u64 t.count, .slice A9 t.links.length c9, .slice B9 t.sess.length d9] t),
            (fun x_ _ => x_ = .agg #[.int .i64 a.err, str a.text])] (fun W => Ext w5 W) Ext rfl rfl rfl
            ?st ((Ext.rfl' w5).drew') ?ob ?en ?en2
          case st => exact ⟨fun _ _ _ h _ => h, fun _ _ _ h _ => h, fun _ _ _ h _ => h, fun _ _ _ h _ => h, fun _ _ _ h _ => h, fun _ _ _ ⟨a1_, a2_, a3_, a4_, h1_, h2_⟩ hx => ⟨a1_, a2_, a3_, a4_, h1_, stE.ext h2_ hx⟩, fun _ _ _ ⟨a1_, a2_, a3_, a4_, h1_, h2_⟩ hx => ⟨a1_, a2_, a3_, a4_, h1_, stE.ext h2_ hx⟩, fun _ _ _ ⟨a1_, a2_, a3_, a4_, h1_, h2_⟩ hx => ⟨a1_, a2_, a3_, a4_, h1_, stE.ext h2_ hx⟩, fun _ _ _ h _ => h, trivial⟩
          case ob =>
            refine ⟨Rg.at_run [4] rfl ?_, ?_⟩
            · intro ρ W hR ⟨q4, _⟩
              replace q4 : ρ 4 = .pointer (some ⟨g2, 0, none⟩) := q4
              refine ⟨rfl, ?_⟩
              have c0_ : W.cell? ⟨g2, 0, none⟩ = some (.int .u64 s.now) := ((hT.ext hR).cell 0).trans rfl
              have c1_ : W.cell? ⟨g2, 1, none⟩ = some (.int .u64 s.count) := ((hT.ext hR).cell 1).trans rfl
              have c2_ : W.cell? ⟨g2, 2, none⟩ = some (.slice A2 s.links.length c2) := ((hT.ext hR).cell 2).trans rfl
              have c3_ : W.cell? ⟨g2, 3, none⟩ = some (.slice B2 s.sess.length d2) := ((hT.ext hR).cell 3).trans rfl
              exact Rg.run_ok (v := .agg #[.int .u64 s.now, .int .u64 s.count, .slice A2 s.links.length c2, .slice B2 s.sess.length d2]) (by simp [execOp, Rg.ev, go_sem, q4, c0_, c1_, c2_, c3_]) ⟨rfl, hR, Ext.rfl' _⟩
            refine ⟨Rg.at_run [5] rfl ?_, ?_⟩
            · intro ρ W hR ⟨q5, _⟩
              replace q5 : ρ 5 = .slice (some ad) l.length c := q5
              refine ⟨rfl, ?_⟩
              exact Rg.run_ok (v := .slice (some ad) l.length c) (by simp [execOp, Rg.ev, go_sem, q5]) ⟨rfl, hR, Ext.rfl' _⟩
            refine ⟨Rg.at_run [6] rfl ?_, ?_⟩
            · intro ρ W hR ⟨q6, _⟩
              replace q6 : ρ 6 = .int .i64 k := q6
              refine ⟨rfl, ?_⟩
              exact Rg.run_ok (v := .int .i64 k) (by simp [execOp, Rg.ev, go_sem, q6]) ⟨rfl, hR, Ext.rfl' _⟩
            refine ⟨Rg.at_run [33, 34] rfl ?_, ?_⟩
            · intro ρ W hR ⟨q33, q34, _⟩
              replace q33 : ρ 33 = .slice (some ad) l.length c := q33
              replace q34 : ρ 34 = .int .i64 k := q34
              refine ⟨rfl, ?_⟩
              exact Rg.run_ok (v := .pointer (some (ad.add (k * 6)))) (by simp [execOp, Rg.ev, go_sem, q33, q34, hb1, hb2]) ⟨rfl, hR, Ext.rfl' _⟩
            refine ⟨Rg.at_run [35] rfl ?_, ?_⟩
            · intro ρ W hR ⟨q35, _⟩
              replace q35 : ρ 35 = .pointer (some (ad.add (k * 6))) := q35
              refine ⟨rfl, ?_⟩
              have hab_ : (ad.add (k * 6)).block < w5.heap.size := by rw [block_of_add]; exact hbk
              have c0_ : W.cell? (ad.add (k * 6)) = some (.int .i64 m.kind) := (hR.cell (p := (ad.add (k * 6))) hab_).trans p0
              have c1_ : W.cell? ⟨(ad.add (k * 6)).block, (ad.add (k * 6)).off + 1, none⟩ = some (.int .i64 m.client) := (hR.cell (p := ⟨(ad.add (k * 6)).block, (ad.add (k * 6)).off + 1, none⟩) hab_).trans p1
              have c2_ : W.cell? ⟨(ad.add (k * 6)).block, (ad.add (k * 6)).off + 2, none⟩ = some (.int .u64 m.seq) := (hR.cell (p := ⟨(ad.add (k * 6)).block, (ad.add (k * 6)).off + 2, none⟩) hab_).trans p2
              have c3_ : W.cell? ⟨(ad.add (k * 6)).block, (ad.add (k * 6)).off + 3, none⟩ = some (str m.name) := (hR.cell (p := ⟨(ad.add (k * 6)).block, (ad.add (k * 6)).off + 3, none⟩) hab_).trans p3
              have c4_ : W.cell? ⟨(ad.add (k * 6)).block, (ad.add (k * 6)).off + 4, none⟩ = some (str m.url) := (hR.cell (p := ⟨(ad.add (k * 6)).block, (ad.add (k * 6)).off + 4, none⟩) hab_).trans p4
              have c5_ : W.cell? ⟨(ad.add (k * 6)).block, (ad.add (k * 6)).off + 5, none⟩ = some (.int .u64 m.till) := (hR.cell (p := ⟨(ad.add (k * 6)).block, (ad.add (k * 6)).off + 5, none⟩) hab_).trans p5
              exact Rg.run_ok (v := .agg #[.int .i64 m.kind, .int .i64 m.client, .int .u64 m.seq, str m.name, str m.url, .int .u64 m.till]) (by simp [execOp, Rg.ev, go_sem, q35, c0_, c1_, c2_, c3_, c4_, c5_]) ⟨rfl, hR, Ext.rfl' _⟩
            refine ⟨Rg.at_run [32, 36] rfl ?_, ?_⟩
            · intro ρ W hR ⟨q32, q36, _⟩
              replace q32 : ρ 32 = .agg #[.int .u64 s.now, .int .u64 s.count, .slice A2 s.links.length c2, .slice B2 s.sess.length d2] := q32
              replace q36 : ρ 36 = .agg #[.int .i64 m.kind, .int .i64 m.client, .int .u64 m.seq, str m.name, str m.url, .int .u64 m.till] := q36
              refine ⟨rfl, ?_⟩
              refine Rg.enter_fn (args := #[.agg #[.int .u64 s.now, .int .u64 s.count, .slice A2 s.links.length c2, .slice B2 s.sess.length d2], .agg #[.int .i64 m.kind, .int .i64 m.client, .int .u64 m.seq, str m.name, str m.url, .int .u64 m.till]]) rfl (by simp only [List.map_toArray, List.map_cons, List.map_nil, Rg.ev, q32, q36]) (by kernel_rfl) ?_
              refine (HD3.out W hR).mono ?_
              rintro e_ w9 ⟨t_, a_, A9, c9, B9, d9, h1_, rfl, h2_, hxx⟩
              obtain ⟨rfl, rfl⟩ := Prod.mk.inj h1_.out
              exact ⟨_, rfl, ⟨A9, c9, B9, d9, rfl, h2_⟩, hR.trans' hxx, hxx⟩
            refine ⟨Rg.at_run [37] rfl ?_, ?_⟩
            · intro ρ W hR ⟨q37, _⟩
              replace q37 : (fun v W => ∃ A9 c9 B9 d9, v = .tuple #[.agg #[.int .u64 t.now, .int .u64 t.count, .slice A9 t.links.length c9, .slice B9 t.sess.length d9], .agg #[.int .i64 a.err, str a.text]] ∧ stE.rep W (XA g1 g2 ga gb) [.int .u64 t.now, .int .u64 t.count, .slice A9 t.links.length c9, .slice B9 t.sess.length d9] t) (ρ 37) W := q37
              refine ⟨rfl, ?_⟩
              exact Rg.run_ok (by simp [execOp, Rg.ev, go_sem] <;> rfl) ⟨q37, hR, Ext.rfl' _⟩
            refine ⟨Rg.at_run [31] rfl ?_, ?_⟩
            · intro ρ W hR ⟨q31, _⟩
              replace q31 : (fun v W => ∃ A9 c9 B9 d9, v = .tuple #[.agg #[.int .u64 t.now, .int .u64 t.count, .slice A9 t.links.length c9, .slice B9 t.sess.length d9], .agg #[.int .i64 a.err, str a.text]] ∧ stE.rep W (XA g1 g2 ga gb) [.int .u64 t.now, .int .u64 t.count, .slice A9 t.links.length c9, .slice B9 t.sess.length d9] t) (ρ 31) W := q31
              refine ⟨rfl, ?_⟩
              obtain ⟨A9, c9, B9, d9, hv_, hr_⟩ := q31
              exact Rg.run_ok (v := .agg #[.int .u64 t.now, .int .u64 t.count, .slice A9 t.links.length c9, .slice B9 t.sess.length d9]) (by simp [execOp, Rg.ev, go_sem, hv_]) ⟨⟨A9, c9, B9, d9, rfl, hr_⟩, hR, Ext.rfl' _⟩
            refine ⟨Rg.at_run [31] rfl ?_, ?_⟩
            · intro ρ W hR ⟨q31, _⟩
              replace q31 : (fun v W => ∃ A9 c9 B9 d9, v = .tuple #[.agg #[.int .u64 t.now, .int .u64 t.count, .slice A9 t.links.length c9, .slice B9 t.sess.length d9], .agg #[.int .i64 a.err, str a.text]] ∧ stE.rep W (XA g1 g2 ga gb) [.int .u64 t.now, .int .u64 t.count, .slice A9 t.links.length c9, .slice B9 t.sess.length d9] t) (ρ 31) W := q31
              refine ⟨rfl, ?_⟩
              obtain ⟨A9, c9, B9, d9, hv_, hr_⟩ := q31
              exact Rg.run_ok (v := .agg #[.int .i64 a.err, str a.text]) (by simp [execOp, Rg.ev, go_sem, hv_]) ⟨rfl, hR, Ext.rfl' _⟩
            trivial
          case en =>
            intro tm W hR hsz hk
            rw [Rg.fin_eq (ds := [32, 33, 34, 35, 36, 37, 31, 38, 39]) rfl rfl rfl hsz hk]
            have k31 : (fun v W => ∃ A9 c9 B9 d9, v = .tuple #[.agg #[.int .u64 t.now, .int .u64 t.count, .slice A9 t.links.length c9, .slice B9 t.sess.length d9], .agg #[.int .i64 a.err, str a.text]] ∧ stE.rep W (XA g1 g2 ga gb) [.int .u64 t.now, .int .u64 t.count, .slice A9 t.links.length c9, .slice B9 t.sess.length d9] t) (tm.getD 31 undef) W := hk 31
            have k32 : tm.getD 32 undef = .agg #[.int .u64 s.now, .int .u64 s.count, .slice A2 s.links.length c2, .slice B2 s.sess.length d2] := hk 32
            have k33 : tm.getD 33 undef = .slice (some ad) l.length c := hk 33
            have k34 : tm.getD 34 undef = .int .i64 k := hk 34
            have k35 : tm.getD 35 undef = .pointer (some (ad.add (k * 6))) := hk 35
            have k36 : tm.getD 36 undef = .agg #[.int .i64 m.kind, .int .i64 m.client, .int .u64 m.seq, str m.name, str m.url, .int .u64 m.till] := hk 36
            have k37 : (fun v W => ∃ A9 c9 B9 d9, v = .tuple #[.agg #[.int .u64 t.now, .int .u64 t.count, .slice A9 t.links.length c9, .slice B9 t.sess.length d9], .agg #[.int .i64 a.err, str a.text]] ∧ stE.rep W (XA g1 g2 ga gb) [.int .u64 t.now, .int .u64 t.count, .slice A9 t.links.length c9, .slice B9 t.sess.length d9] t) (tm.getD 37 undef) W := hk 37
            have k38 : (fun v W => ∃ A9 c9 B9 d9, v = .agg #[.int .u64 t.now, .int .u64 t.count, .slice A9 t.links.length c9, .slice B9 t.sess.length d9] ∧ stE.rep W (XA g1 g2 ga gb) [.int .u64 t.now, .int .u64 t.count, .slice A9 t.links.length c9, .slice B9 t.sess.length d9] t) (tm.getD 38 undef) W := hk 38
            have k39 : tm.getD 39 undef = .agg #[.int .i64 a.err, str a.text] := hk 39
            clear hk hsz
            simp only [Rg.putAll, List.setIfInBounds_toArray, List.set_cons_zero, List.set_cons_succ, k32, k33, k34, k35, k36, k39]
            generalize tm.getD 31 undef = u31 at *
            clear k32
            clear k33
            clear k34
            clear k35
            clear k36
            generalize tm.getD 37 undef = u37 at *
            generalize tm.getD 38 undef = u38 at *
            clear k39
            clear k31 k37
            obtain ⟨A9, c9, B9, d9, rfl, hrep1⟩ := k38
            replace hS := hS.ext hR
            replace hT := hT.ext hR
            replace hA := hA.ext hR
            replace hB := hB.ext hR
            replace hown := hown.ext hR
            replace hrS := stE.ext hrS hR
            replace hrT := stE.ext hrT hR
            replace hxr := hxr.trans' hR
            have l0 := (hT.cell 0).trans rfl
            have n0_ := hT.frozen 0
            have l1 := (hT.cell 1).trans rfl
            have n1_ := hT.frozen 1
            have l2 := (hT.cell 2).trans rfl
            have n2_ := hT.frozen 2
            have l3 := (hT.cell 3).trans rfl
            have n3_ := hT.frozen 3
            have a0 := (hB.cell 0).trans rfl
            have b0 := hB.frozen 0
            have a1 := (hB.cell 1).trans rfl
            have b1 := hB.frozen 1
            have hcg : Chg [g2] W _ := (Chg.refl [g2] W).four (g := g2) (by simp) (.int .u64 t.now) (.int .u64 t.count) (.slice A9 t.links.length c9) (.slice B9 t.sess.length d9)
            have hX1 := Blk.four hT (.int .u64 t.now) (.int .u64 t.count) (.slice A9 t.links.length c9) (.slice B9 t.sess.length d9)
            have hY1 := Blk.two_ (hB.chg hcg (by simp; omega)) (.int .i64 a.err) (str a.text)
            have hc2 : Chg [gb] _ _ := (Chg.refl [gb] ((((W.setCell ⟨g2, 0, none⟩ (.int .u64 t.now)).setCell ⟨g2, 1, none⟩ (.int .u64 t.count)).setCell ⟨g2, 2, none⟩ (.slice A9 t.links.length c9)).setCell ⟨g2, 3, none⟩ (.slice B9 t.sess.length d9))).two_ (g := gb) (by simp) (.int .i64 a.err) (str a.text)
            have hX2 := hX1.chg hc2 (by simp; omega)
            have hS2 := (hS.chg hcg (by simp; omega)).chg hc2 (by simp; omega)
            have hA2 := (hA.chg hcg (by simp; omega)).chg hc2 (by simp; omega)
            have hrN := stE.chg (stE.chg hrep1 hcg (fun j hj _ => .inr (.inl (by simpa using hj)))) hc2 (fun j hj _ => .inr (.inr (.inr (by simpa using hj))))
            have hrO := stE.chg (stE.chg hrS hcg (fun j hj _ => .inr (.inl (by simpa using hj)))) hc2 (fun j hj _ => .inr (.inr (.inr (by simpa using hj))))
            have hown2 := (hown.chgT hT (by decide) hcg (fun h => cm_any h)).chgT (hB.chg hcg (by simp; omega)) (by decide) hc2 (fun h => cm_any h)
            have hx2 := (hxr.then_ hcg (by simp; omega)).then_ hc2 (by simp; omega)
            go_wp2_with fail
            go_meet
            case rel => exact ⟨A9, c9, B9, d9, hS2, hX2, hA2, hY1, hrO, hrN, hown2, hx2⟩
          case en2 =>
            intro tm W hR hsz hk
            rw [Rg.fin_eqX (ds := [32, 33, 34, 35, 36, 37, 31, 38, 39]) rfl (by decide) rfl rfl hsz hk]
            have k31 : (fun v W => ∃ A9 c9 B9 d9, v = .tuple #[.agg #[.int .u64 t.now, .int .u64 t.count, .slice A9 t.links.length c9, .slice B9 t.sess.length d9], .agg #[.int .i64 a.err, str a.text]] ∧ stE.rep W (XA g1 g2 ga gb) [.int .u64 t.now, .int .u64 t.count, .slice A9 t.links.length c9, .slice B9 t.sess.length d9] t) (tm.getD 31 undef) W := hk 31
            have k32 : tm.getD 32 undef = .agg #[.int .u64 s.now, .int .u64 s.count, .slice A2 s.links.length c2, .slice B2 s.sess.length d2] := hk 32
            have k33 : tm.getD 33 undef = .slice (some ad) l.length c := hk 33
            have k34 : tm.getD 34 undef = .int .i64 k := hk 34
            have k35 : tm.getD 35 undef = .pointer (some (ad.add (k * 6))) := hk 35
            have k36 : tm.getD 36 undef = .agg #[.int .i64 m.kind, .int .i64 m.client, .int .u64 m.seq, str m.name, str m.url, .int .u64 m.till] := hk 36
            have k37 : (fun v W => ∃ A9 c9 B9 d9, v = .tuple #[.agg #[.int .u64 t.now, .int .u64 t.count, .slice A9 t.links.length c9, .slice B9 t.sess.length d9], .agg #[.int .i64 a.err, str a.text]] ∧ stE.rep W (XA g1 g2 ga gb) [.int .u64 t.now, .int .u64 t.count, .slice A9 t.links.length c9, .slice B9 t.sess.length d9] t) (tm.getD 37 undef) W := hk 37
            have k38 : (fun v W => ∃ A9 c9 B9 d9, v = .agg #[.int .u64 t.now, .int .u64 t.count, .slice A9 t.links.length c9, .slice B9 t.sess.length d9] ∧ stE.rep W (XA g1 g2 ga gb) [.int .u64 t.now, .int .u64 t.count, .slice A9 t.links.length c9, .slice B9 t.sess.length d9] t) (tm.getD 38 undef) W := hk 38
            clear hk hsz
            simp only [Rg.putAll, List.setIfInBounds_toArray, List.set_cons_zero, List.set_cons_succ, k32, k33, k34, k35, k36]
            generalize tm.getD 31 undef = u31 at *
            clear k32
            clear k33
            clear k34
            clear k35
            clear k36
            generalize tm.getD 37 undef = u37 at *
            generalize tm.getD 38 undef = u38 at *
            generalize tm.getD 39 undef = u39 at *
            clear k37
            obtain ⟨A9, c9, B9, d9, rfl, hrep1⟩ := k38
            replace hS := hS.ext hR
            replace hT := hT.ext hR
            replace hA := hA.ext hR
            replace hB := hB.ext hR
            replace hown := hown.ext hR
            replace hrS := stE.ext hrS hR
            replace hrT := stE.ext hrT hR
            replace hxr := hxr.trans' hR
            have l0 := (hT.cell 0).trans rfl
            have n0_ := hT.frozen 0
            have l1 := (hT.cell 1).trans rfl
            have n1_ := hT.frozen 1
            have l2 := (hT.cell 2).trans rfl
            have n2_ := hT.frozen 2
            have l3 := (hT.cell 3).trans rfl
            have n3_ := hT.frozen 3
            have a0 := (hB.cell 0).trans rfl
            have b0 := hB.frozen 0
            have a1 := (hB.cell 1).trans rfl
            have b1 := hB.frozen 1
            have hcg : Chg [g2] W _ := (Chg.refl [g2] W).four (g := g2) (by simp) (.int .u64 t.now) (.int .u64 t.count) (.slice A9 t.links.length c9) (.slice B9 t.sess.length d9)
            have hX1 := Blk.four hT (.int .u64 t.now) (.int .u64 t.count) (.slice A9 t.links.length c9) (.slice B9 t.sess.length d9)
            have hY1 := Blk.two_ (hB.chg hcg (by simp; omega)) (.int .i64 a.err) (str a.text)
            have hc2 : Chg [gb] _ _ := (Chg.refl [gb] ((((W.setCell ⟨g2, 0, none⟩ (.int .u64 t.now)).setCell ⟨g2, 1, none⟩ (.int .u64 t.count)).setCell ⟨g2, 2, none⟩ (.slice A9 t.links.length c9)).setCell ⟨g2, 3, none⟩ (.slice B9 t.sess.length d9))).two_ (g := gb) (by simp) (.int .i64 a.err) (str a.text)
            have hX2 := hX1.chg hc2 (by simp; omega)
            have hS2 := (hS.chg hcg (by simp; omega)).chg hc2 (by simp; omega)
            have hA2 := (hA.chg hcg (by simp; omega)).chg hc2 (by simp; omega)
            have hrN := stE.chg (stE.chg hrep1 hcg (fun j hj _ => .inr (.inl (by simpa using hj)))) hc2 (fun j hj _ => .inr (.inr (.inr (by simpa using hj))))
            have hrO := stE.chg (stE.chg hrS hcg (fun j hj _ => .inr (.inl (by simpa using hj)))) hc2 (fun j hj _ => .inr (.inr (.inr (by simpa using hj))))
            have hown2 := (hown.chgT hT (by decide) hcg (fun h => cm_any h)).chgT (hB.chg hcg (by simp; omega)) (by decide) hc2 (fun h => cm_any h)
            have hx2 := (hxr.then_ hcg (by simp; omega)).then_ hc2 (by simp; omega)
            obtain ⟨A8, c8, B8, d8, hv_, -⟩ := k31
            rw [hv_]
            clear hv_
            simp only [List.drop_succ_cons, List.drop_zero]
            go_wp2_with fail
            go_meet
            case rel => exact ⟨A9, c9, B9, d9, hS2, hX2, hA2, hY1, hrO, hrN, hown2, hx2⟩
        case rest =>
          clear hS hT hA hB hrS hrT hown p0 p1 p2 p3 p4 p5 hbk HD2 HD3 hxr
          obtain ⟨A4, c4, B4, d4, hS, hT, hA, hB, hrS, hrT, hown, hxr⟩ := hcut
          generalize wc = w6 at *
          have l0 := (hS.cell 0).trans rfl
          have l1 := (hS.cell 1).trans rfl
          have l2 := (hS.cell 2).trans rfl
          have l3 := (hS.cell 3).trans rfl
          have q0 := (hT.cell 0).trans rfl
          have q1 := (hT.cell 1).trans rfl
          have q2 := (hT.cell 2).trans rfl
          have q3 := (hT.cell 3).trans rfl
          have a0 := (hA.cell 0).trans rfl
          have a1 := (hA.cell 1).trans rfl
          have b0 := (hB.cell 0).trans rfl
          have b1 := (hB.cell 1).trans rfl
          have hrS0 := stE.mono hrS (Y := noneAt) (fun _ _ h => h.elim)
          have hrT0 := stE.mono hrT (Y := noneAt) (fun _ _ h => h.elim)
          go_wp2_with fail
          refine (sameL_b t _ _ _ HS1.out hrS0 hrT0).mono ?_
          rintro e w7 ⟨rfl, hxe⟩
          clear l0 l1 l2 l3 q0 q1 q2 q3 a0 a1 b0 b1
          go_wp2_with fail
          go_roundw
          case rel => exact ⟨k + 1, t, A3, c3, B3, d3, A4, c4, B4, d4, by have := HLT.out; omega, by go_num, hS.ext hxe, hT.ext hxe, stE.ext (stE.mono hrS (Y := fun j => j = g1 ∨ j = g2) (fun j _ h => h.elim .inl fun h => .inr (.inl h))) hxe, stE.ext (stE.mono hrT (Y := fun j => j = g1 ∨ j = g2) (fun j _ h => h.elim .inl fun h => .inr (.inl h))) hxe, HI1.out, HS1.out, hown.ext hxe, hxr.trans' hxe⟩
          case measure => have := HLT.out; simp [intOf]; omega
    · go_wp2_with fail
      go_ret
      exact ⟨rfl, hxr⟩
end Go.Proofs.Ytggfemdgccgbpaa

/- The statement 'LinksAllSaid': whatever is handed in, the law answers true, and what was handed in is as it was. -/
namespace Go.Proofs.Ytggfemdgccgbpaa.linksAll
set_option linter.unusedVariables false
set_option linter.unusedSimpArgs false
set_option linter.unnecessarySimpa false
set_option maxRecDepth 100000
open Go.ChangeShapes Go.WideShapes Go.ChangeAt Go.RowKit
open Go.ChangeMaps (open_string shut_string)

set_option maxRecDepth 100000 in
set_option maxHeartbeats 2000000 in
theorem lifted (os : Os) (started : os.Started) (H : Type) (enc : TypeId × Value → H) :
    ReturnsInHanded {} Try.checked os 3 .any (Rows.linksAllSpec.pre6 enc Try.prog Try.f3 Rows.linksAllRow.domain false) (Rows.linksAllSpec.post enc Try.prog Try.f3 false true false false) := by
  refine returnsInHanded_of_change (C := Try.checked) own started (by kernel_rfl) Try.func3
    (ChangeSpec.witness6 (enc := enc) (C := Try.checked) false ⟨#[], #[.slice none 0 0], []⟩ 8 (by kernel_rfl) (by kernel_rfl) (by kernel_rfl) (by kernel_rfl)) ?_
  intro W base args ds gs before hval0 hW hcnd _
  have hval : ∀ (j : Nat) t v, Try.f3.params[j]? = some t → args[j]? = some v → Value.okWide Try.prog W .any base t v := hval0
  have hW' := hW
  obtain ⟨p, q, hA0, hV, rfl, hfz, hnd⟩ := hW
  have hA : DataW.TrodAll enc Try.prog W 0 (fun _ => true) true Try.f3.params.toList args.toList ds p := hA0
  rw [Try.params3] at hA hval
  obtain ⟨v0, vs0, d0, ds0, p0, q0, hargs, rfl, rfl, h0, r0⟩ := trodAll_cons hA
  obtain ⟨rfl, rfl, rfl⟩ := trodAll_nil r0
  obtain rfl : args = #[v0] := by cases args; simp_all
  obtain ⟨rfl, rfl⟩ := trodVars_none hV
  obtain ⟨a0, len0, cap0, rfl⟩ := okWide_slice Try.underlying22 (hval 0 22 v0 rfl rfl)
  have k0 := h0
  have lt0 : ∀ x ∈ p0, x.block < W.heap.size := by obtain ⟨m, hm⟩ := k0; exact DataW.trod_lt m _ _ _ hm
  obtain ⟨b0, hb0⟩ : ∃ b, Bs W (.slice a0 len0 cap0) b := by
    obtain ⟨fuel, hf⟩ := h0
    rcases open_ints Try.underlying22 Try.underlying5 (by kernel_rfl) hf with ⟨hcs, _⟩ | ⟨x, l, c, zs, hcs, _, hl, hm, hz, _, hcell, hwz⟩
    · simp [Value.cells] at hcs
      obtain ⟨rfl, rfl, rfl⟩ := hcs
      exact ⟨[], bs_none⟩
    · simp [Value.cells] at hcs
      obtain ⟨rfl, rfl, rfl⟩ := hcs
      exact bs_of_ints hl hm (by simpa using hz) hcell hwz
  clear hA0 hval0
  refine (linksAll_walk _ b0 W hb0).mono fun e W' ⟨he, bel⟩ => ?_
  subst he
  exact ⟨_, rfl, _, _, _, [], _, [], hW', trodAll_mk1 (shut_bool Try.underlying4 _), (trodAll_cons_mk (Below.trod laidOut (by kernel_rfl) (of_decide_eq_true (by kernel_rfl)) k0 bel lt0) trodAll_mk0), rfl, bel.frame _, fun h => by cases h⟩

theorem over : Rows.linksAllRow.holds Try.pinned (OpenSpec.ofChange Rows.linksAllSpec) :=
  OpenClaim.holds_of_wide 3 Try.f3 rfl rfl rfl rfl rfl rfl rfl ⟨rfl, rfl, rfl, rfl, rfl⟩ rfl rfl rfl rfl rfl (by kernel_rfl) Try.func3 (by kernel_rfl)
    (of_decide_eq_true (by kernel_rfl)) (by unfold Func.isWrapper; first | (rw [if_pos (by decide +kernel)]; kernel_rfl) | (rw [if_neg (by decide +kernel)]; exact ⟨rfl, rfl⟩))
    (fun os started H enc _ => lifted os started H enc)

/-- THE STATEMENT -/
theorem proved : Rows.LinksAllSaid := over
#print axioms proved
end Go.Proofs.Ytggfemdgccgbpaa.linksAll

