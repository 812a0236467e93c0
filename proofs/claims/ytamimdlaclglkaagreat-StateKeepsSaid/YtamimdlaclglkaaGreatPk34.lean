import Derived.Test.YtamimdlaclglkaaGreatPk33
import Derived.Test.YtamimdlaclglkaaGreatPk32
import Derived.Laws.Cover1
import Derived.RegionTactic
import Derived.Deep.DeepCutAuto
/- The document's links: small functions. -/
namespace Go.Proofs.YtamimdlaclglkaaGreat
set_option linter.unusedVariables false
set_option linter.unusedSimpArgs false
set_option linter.unnecessarySimpa false
set_option maxRecDepth 100000
open Go.RowKit
theorem two_alR (W : World) (T1 T2 : TypeId) (c1 c2 : Array Value) : Blk ((W.alloc (.cells c1 T1)).alloc (.cells c2 T2)) W.heap.size T1 c1 ∧ Blk ((W.alloc (.cells c1 T1)).alloc (.cells c2 T2)) (W.heap.size + 1) T2 c2 ∧ Ext W ((W.alloc (.cells c1 T1)).alloc (.cells c2 T2)) := by
  have h2 := Blk.new (W.alloc (.cells c1 T1)) T2 c2
  rw [show (W.alloc (.cells c1 T1)).heap.size = W.heap.size + 1 by simp] at h2
  exact ⟨(Blk.new W T1 c1).alloc _, h2, ((Ext.rfl' W).alloc' _).alloc' _⟩
set_option maxHeartbeats 800000 in
theorem rtold_b (t : Bytes) (w : World) : Calls Tryz.prog 71 #[str t] w fun e w' => e = .returned (.agg #[.int .i64 0, str t]) ∧ Ext w w' := by
  go_enter Tryz.func71, Tryz.ntmps71
  go_wp2
  try simp only [Exit.inBlock, Exit.then]
  refine bodyPost_ret (results_cell_row rfl _ _ w.heap.size 33 (acells ⟨0, t⟩).toArray (0, 0) _ rfl (Blk.new w _ _) Tryz.underlying33 rfl (by kernel_rfl)) rfl ?_
  exact ⟨rfl, (Ext.rfl' w).alloc' _⟩
set_option maxHeartbeats 800000 in
theorem rfails_b (k : Int) (w : World) : Calls Tryz.prog 68 #[.int .i64 k] w fun e w' => e = .returned (.agg #[.int .i64 k, str []]) ∧ Ext w w' := by
  go_enter Tryz.func68, Tryz.ntmps68
  go_wp2
  try simp only [Exit.inBlock, Exit.then]
  refine bodyPost_ret (results_cell_row rfl _ _ w.heap.size 33 (acells ⟨k, []⟩).toArray (0, 0) _ rfl (Blk.new w _ _) Tryz.underlying33 rfl (by kernel_rfl)) rfl ?_
  exact ⟨rfl, (Ext.rfl' w).alloc' _⟩
set_option maxHeartbeats 1600000 in
theorem rbound_b (s : St) (c : Cm) (vl vs : Value) (w : World) :
    Calls Tryz.prog 101 #[.agg #[.int .u64 s.now, .int .u64 s.count, vl, vs], cv c] w fun e w' => e = .returned (.int .i64 (lmay c s.now)) ∧ Ext w w' := by
  obtain ⟨hB, hC, hx⟩ := two_alR w 28 37 #[.int .u64 s.now, .int .u64 s.count, vl, vs] (ccells c)
  have b0 := (hB.cell 0).trans rfl
  have c4 := (hC.cell 4).trans rfl
  have c5 := (hC.cell 5).trans rfl
  clear hB hC
  rcases Bool.eq_false_or_eq_true c.url.isEmpty with hu | hu
  · have HL : Hid (lmay c s.now = 1) := if_pos (.inl (by simpa using hu))
    rw [HL.out]
    go_enter Tryz.func101, Tryz.ntmps101
    go_wp2
    go_ret
    exact ⟨rfl, hx⟩
  rcases Bool.eq_false_or_eq_true (decide ((400 : Int) < c.url.length)) with hl | hl
  · have HL : Hid (lmay c s.now = 1) := if_pos (.inr (.inl (by have := of_decide_eq_true hl; omega)))
    rw [HL.out]
    go_enter Tryz.func101, Tryz.ntmps101
    go_wp2
    go_ret
    exact ⟨rfl, hx⟩
  rcases Bool.eq_false_or_eq_true (decide (1099511627776 < c.till)) with ht | ht
  · have HL : Hid (lmay c s.now = 1) := if_pos (.inr (.inr (of_decide_eq_true ht)))
    rw [HL.out]
    go_enter Tryz.func101, Tryz.ntmps101
    go_wp2
    go_ret
    exact ⟨rfl, hx⟩
  have HN : Hid (¬ (c.url = [] ∨ 400 < c.url.length ∨ 1099511627776 < c.till)) := hide (by
    rintro (h | h | h)
    · rw [h] at hu; cases hu
    · have := of_decide_eq_false hl; omega
    · exact of_decide_eq_false ht h)
  by_cases h0 : c.till = 0
  · have HL : Hid (lmay c s.now = 0) := by unfold Hid lmay; rw [if_neg HN.out, if_neg (by simp [h0])]
    rw [HL.out]
    clear HL HN
    obtain ⟨kind, client, seq, name, url, till⟩ := c
    simp only at h0 hu hl ht
    subst h0
    go_enter Tryz.func101, Tryz.ntmps101
    go_wp2
    go_ret
    exact ⟨rfl, hx⟩
  have h0' : (c.till != 0) = true := by simpa using h0
  rcases Bool.eq_false_or_eq_true (decide (c.till ≤ s.now)) with h1 | h1
  · have HL : Hid (lmay c s.now = 13) := by unfold Hid lmay; rw [if_neg HN.out, if_pos ⟨h0, of_decide_eq_true h1⟩]
    rw [HL.out]
    clear HN h0
    go_enter Tryz.func101, Tryz.ntmps101
    go_wp2
    go_ret
    exact ⟨rfl, hx⟩
  · have HL : Hid (lmay c s.now = 0) := by unfold Hid lmay; rw [if_neg HN.out, if_neg (fun h => of_decide_eq_false h1 h.2)]
    rw [HL.out]
    clear HN h0
    go_enter Tryz.func101, Tryz.ntmps101
    go_wp2
    go_ret
    exact ⟨rfl, hx⟩
/-- what the document's Find tells -/
def rfv (l : List Ln) (n : Bytes) : Ln × Bool := match rfind l n with
  | some x => (x, true)
  | none => (Ln0, false)
set_option maxHeartbeats 1600000 in
theorem lrfind_b (X : Avoid) (s : St) (A : Option Addr) (c : Nat) (vs : Value) (n : Bytes) (w : World) (hl : Enc.Sl lnE w X (.slice A s.links.length c) s.links) (hll : s.links.length ≤ 10000) :
    Calls Tryz.prog 74 #[.agg #[.int .u64 s.now, .int .u64 s.count, .slice A s.links.length c, vs], str n] w fun e w' => e = .returned (.tuple #[.agg (lcells (rfv s.links n).1).toArray, .bool (rfv s.links n).2]) ∧ Ext w w' := by
  obtain ⟨hB, hL, hx0⟩ := two_alR w 28 53 #[.int .u64 s.now, .int .u64 s.count, .slice A s.links.length c, vs] #[str [], str [], .int .u64 0, .bool false]
  obtain ⟨g, hg⟩ : ∃ g, w.heap.size = g := ⟨_, rfl⟩
  rw [hg] at hB hL
  obtain ⟨⟨yr, is⟩, hr⟩ : ∃ r, rfv s.links n = r := ⟨_, rfl⟩
  rw [hr]
  have HR := hide hr
  clear hr
  go_enter Tryz.func74, Tryz.ntmps74
  go_upto_region 1 with fail
  generalize ((w.alloc (.cells #[.int .u64 s.now, .int .u64 s.count, .slice A s.links.length c, vs] 28)).alloc (.cells #[str [], str [], .int .u64 0, .bool false] 53)) = w1 at *
  try rw [hg]
  go_wp2_with fail
  go_loopw [6] (fun i wr => ∃ k : Nat, k ≤ s.links.length ∧ i = .int .i64 k ∧ Hid (∀ j x, j < k → s.links[j]? = some x → ¬ x.name = n) ∧ Ext w1 wr) (fun i _ => (s.links.length - intOf i).toNat)
  case atStart => exact ⟨0, by omega, rfl, hide (fun j x h => absurd h (by omega)), Ext.rfl' _⟩
  case round =>
    obtain ⟨k, hk, rfl, hno, hxr⟩ := hrel
    have hBr := hB.ext hxr
    have hLr := hL.ext hxr
    have b2 := (hBr.cell 2).trans rfl
    have l0 := (hLr.cell 0).trans rfl
    have l1 := (hLr.cell 1).trans rfl
    have l2 := (hLr.cell 2).trans rfl
    have l3 := (hLr.cell 3).trans rfl
    have n0 := hLr.frozen 0
    have n1 := hLr.frozen 1
    have n2 := hLr.frozen 2
    have n3 := hLr.frozen 3
    by_cases hlt : (k : Int) < s.links.length
    · obtain ⟨ad, y, rfl, hyk, hbp, p0, p1, p2, p3, -⟩ := ln_at (hl.ext (hx0.trans' hxr)) (k := k) (by omega)
      have hk0 : (0 : Int) ≤ k := by omega
      rcases Bool.eq_false_or_eq_true (y.name == n) with he | he
      · have HF : Hid (rfv s.links n = (y, true)) := by
          have h1 : y.name = n := eq_of_beq he
          unfold Hid rfv rfind
          have h2 : s.links.find? (fun x => decide (x.name = n)) = some y := by
            have h3 := hyk.out
            rw [List.find?_eq_some_iff_getElem]
            obtain ⟨h4, h5⟩ := List.getElem?_eq_some_iff.1 h3
            refine ⟨by simpa using h1, k, h4, h5, fun j hj => ?_⟩
            have := hno.out j _ hj (List.getElem?_eq_getElem (by omega))
            simpa using this
          rw [h2]
        obtain ⟨rfl, rfl⟩ := Prod.mk.inj (HR.out.symm.trans HF.out)
        go_wp2
        try simp only [Exit.inBlock, Exit.then]
        refine bodyPost_ret (results_cell2 rfl _ _ (g + 1) 53 (lcells yr).toArray (0, 0) _ rfl (Blk.four hLr (str yr.name) (str yr.url) (.int .u64 yr.till) (.bool yr.made)) Tryz.underlying53 rfl (by kernel_rfl)) rfl ?_
        exact ⟨rfl, (hx0.trans' hxr).then_ ((Chg.refl [g + 1] wr).four (by simp) _ _ _ _) (by simp; omega)⟩
      · clear n0 n1 n2 n3
        go_wp2
        go_roundw
        case rel => exact ⟨k + 1, by omega, by go_num, hide (fun j x hj hx => by
          rcases Nat.lt_or_ge j k with h | h
          · exact hno.out j x h hx
          · obtain rfl : j = k := by omega
            obtain rfl := Option.some.inj (hx.symm.trans hyk.out)
            intro h5
            rw [h5] at he
            simp at he), hxr⟩
        case measure => simp [intOf]; omega
    · have HF : Hid (rfv s.links n = (Ln0, false)) := by
        unfold Hid rfv rfind
        have h2 : s.links.find? (fun x => decide (x.name = n)) = none := by
          rw [List.find?_eq_none]
          intro x hx
          obtain ⟨j, hj⟩ := List.mem_iff_getElem?.1 hx
          have h4 := (List.getElem?_eq_some_iff.1 hj).1
          have := hno.out j x (by omega) hj
          simpa using this
        rw [h2]
      obtain ⟨rfl, rfl⟩ := Prod.mk.inj (HR.out.symm.trans HF.out)
      go_wp2
      try simp only [Exit.inBlock, Exit.then]
      refine bodyPost_ret (results_cell2 rfl _ _ (g + 1) 53 (lcells Ln0).toArray (0, 0) _ rfl (Blk.four hLr (str []) (str []) (.int .u64 0) (.bool false)) Tryz.underlying53 rfl (by kernel_rfl)) rfl ?_
      exact ⟨rfl, (hx0.trans' hxr).then_ ((Chg.refl [g + 1] wr).four (by simp) _ _ _ _) (by simp; omega)⟩
end Go.Proofs.YtamimdlaclglkaaGreat

/- The document's put: one more link. -/
namespace Go.Proofs.YtamimdlaclglkaaGreat
set_option linter.unusedVariables false
set_option linter.unusedSimpArgs false
set_option linter.unnecessarySimpa false
set_option maxRecDepth 100000
open Go.RowKit
theorem cntP_firstL {α : Type} (p : α → Bool) : ∀ (l : List α) (k : Nat), k ≤ l.length → (∀ (j : Nat) (x : α), j < k → l[j]? = some x → p x = true) → (∀ (x : α), l[k]? = some x → p x = false) → cntP p l = k
  | [], k, hk, _, _ => by simp [cntP] at *; omega
  | a :: l, 0, _, _, h => by simp [cntP, h a rfl]
  | a :: l, k + 1, hk, h1, h2 => by
    have ih := cntP_firstL p l k (by simpa using hk) (fun j x hj hx => h1 (j + 1) x (by omega) (by simpa using hx)) (fun x hx => h2 x (by simpa using hx))
    unfold cntP at *
    rw [List.takeWhile_cons, if_pos (h1 0 a (by omega) rfl)]
    simp [ih]
theorem three_al (W : World) (T1 T2 T3 : TypeId) (c1 c2 c3 : Array Value) : Blk (((W.alloc (.cells c1 T1)).alloc (.cells c2 T2)).alloc (.cells c3 T3)) W.heap.size T1 c1 ∧ Blk (((W.alloc (.cells c1 T1)).alloc (.cells c2 T2)).alloc (.cells c3 T3)) (W.heap.size + 1) T2 c2 ∧
    Blk (((W.alloc (.cells c1 T1)).alloc (.cells c2 T2)).alloc (.cells c3 T3)) (W.heap.size + 1 + 1) T3 c3 ∧ Ext W (((W.alloc (.cells c1 T1)).alloc (.cells c2 T2)).alloc (.cells c3 T3)) := by
  obtain ⟨h1, h2, hx⟩ := two_alR W T1 T2 c1 c2
  have h3 := Blk.new ((W.alloc (.cells c1 T1)).alloc (.cells c2 T2)) T3 c3
  rw [show ((W.alloc (.cells c1 T1)).alloc (.cells c2 T2)).heap.size = W.heap.size + 1 + 1 by simp] at h3
  exact ⟨h1.alloc _, h2.alloc _, h3, hx.alloc' _⟩
set_option maxHeartbeats 6400000 in
theorem lrput_b (X : Avoid) (s : St) (A : Option Addr) (c : Nat) (B : Option Addr) (d : Nat) (x : Ln) (w : World) (hX : ∀ k, X k → k < w.heap.size) (hs : stE.rep w X [.int .u64 s.now, .int .u64 s.count, .slice A s.links.length c, .slice B s.sess.length d] s)
    (hx1 : x.name.length ≤ maxLen) (hx2 : x.url.length ≤ maxLen) (hx3 : U64 x.till) (hll : s.links.length ≤ 10000) :
    Calls Tryz.prog 103 #[.agg #[.int .u64 s.now, .int .u64 s.count, .slice A s.links.length c, .slice B s.sess.length d], .agg (lcells x).toArray] w fun e w' =>
      ∃ (l : List Ln) (A' : Option Addr) (c' : Nat), Hid (l = lkput s.links x) ∧ e = .returned (.agg #[.int .u64 s.now, .int .u64 s.count, .slice A' l.length c', .slice B s.sess.length d]) ∧
        stE.rep w' X [.int .u64 s.now, .int .u64 s.count, .slice A' l.length c', .slice B s.sess.length d] ⟨s.now, s.count, l, s.sess⟩ ∧ Ext w w' := by
  obtain ⟨vl, vs, hcs, s1, s2, s3, s4⟩ := st_rep.1 hs
  simp only [List.cons.injEq, and_true, true_and] at hcs
  obtain ⟨rfl, rfl⟩ := hcs
  have hcl : s.links.length ≤ c := s3.inv.2.1
  obtain ⟨hB, hL, hR, hx0⟩ := three_al w 28 53 28 #[.int .u64 s.now, .int .u64 s.count, .slice A s.links.length c, .slice B s.sess.length d] (lcells x).toArray #[.int .u64 0, .int .u64 0, .slice none 0 0, .slice none 0 0]
  obtain ⟨g, hg⟩ : ∃ g, w.heap.size = g := ⟨_, rfl⟩
  rw [hg] at hB hL hR
  have hXl : ∀ k, X k → k < g := fun k hk => by rw [← hg]; exact hX k hk
  go_enter Tryz.func103, Tryz.ntmps103
  go_upto_region 1 with fail
  generalize (((w.alloc (.cells #[.int .u64 s.now, .int .u64 s.count, .slice A s.links.length c, .slice B s.sess.length d] 28)).alloc (.cells (lcells x).toArray 53)).alloc (.cells #[.int .u64 0, .int .u64 0, .slice none 0 0, .slice none 0 0] 28)) = w1 at *
  try rw [hg]
  go_wp2_with fail
  go_loopw [5] (fun i wr => ∃ k : Nat, k ≤ s.links.length ∧ i = .int .i64 k ∧ Hid (∀ (j : Nat) (y : Ln), j < k → s.links[j]? = some y → ltN x.name y = true) ∧ Ext w1 wr) (fun i _ => (s.links.length - intOf i).toNat)
  case atStart => exact ⟨0, by omega, rfl, hide (fun j y h => by omega), Ext.rfl' _⟩
  case round =>
    obtain ⟨k, hk, rfl, hd, hxr⟩ := hrel
    have hBr := hB.ext hxr
    have hLr := hL.ext hxr
    have hRr := hR.ext hxr
    have b2 := (hBr.cell 2).trans rfl
    have l0 := (hLr.cell 0).trans rfl
    have hk0 : (0 : Int) ≤ k := by omega
    go_upto_region 2 with fail
    go_cut [22] (fun b wx => ∃ bb : Bool, b = .bool bb ∧ Ext wr wx ∧ Hid (bb = true → ∃ y, s.links[k]? = some y ∧ ltN x.name y = true) ∧ Hid (bb = false → ∀ y, s.links[k]? = some y → ltN x.name y = false))
    case first =>
      have hdx := (Ext.rfl' wr).drew'
      by_cases hlt : (k : Int) < s.links.length
      · obtain ⟨ad, y, rfl, hyk, hbp, p0, -⟩ := ln_at (s3.ext (hx0.trans' hxr)) (k := k) (by omega)
        rcases Bool.eq_false_or_eq_true (Op.bytesLess y.name x.name) with hb | hb
        · go_region
          go_wp2_with fail
          go_meet
          case rel => exact ⟨true, rfl, hdx, hide (fun _ => ⟨y, hyk.out, hb⟩), hide (fun h => by cases h)⟩
        · go_region
          go_wp2_with fail
          go_meet
          case rel => exact ⟨false, rfl, hdx, hide (fun h => by cases h), hide (fun _ z hz => by obtain rfl := Option.some.inj (hz.symm.trans hyk.out); exact hb)⟩
      · go_region
        go_wp2_with fail
        go_meet
        case rel => exact ⟨false, rfl, hdx, hide (fun h => by cases h), hide (fun _ z hz => by have := (List.getElem?_eq_some_iff.1 hz).1; omega)⟩
    case rest =>
      obtain ⟨bb, rfl, hxc, hbt, hbf⟩ := hcut
      replace hxr := hxr.trans' hxc
      replace hBr := hBr.ext hxc
      replace hLr := hLr.ext hxc
      replace hRr := hRr.ext hxc
      generalize wc = W2 at *
      clear b2 l0 hxc
      cases bb with
      | true =>
        obtain ⟨y, hy1, hy2⟩ := hbt.out rfl
        have hkl := (List.getElem?_eq_some_iff.1 hy1).1
        have HY := hide hy1
        have HY2 := hide hy2
        clear hy1 hy2
        go_wp2_with fail
        go_roundw
        case rel => exact ⟨k + 1, by omega, by go_num, hide (fun j z hj hz => by
          rcases Nat.lt_or_ge j k with h | h
          · exact hd.out j z h hz
          · obtain rfl : j = k := by omega
            obtain rfl := Option.some.inj (hz.symm.trans HY.out)
            exact HY2.out), hxr⟩
        case measure => simp [intOf]; omega
      | false =>
        have HK : Hid (cntP (ltN x.name) s.links = k) := hide (cntP_firstL _ _ k hk hd.out (hbf.out rfl))
        have hx2w := hx0.trans' hxr
        have hg2 : g + 1 + 1 < W2.heap.size := hRr.lt
        have b2 := (hBr.cell 2).trans rfl
        have hkc : k ≤ c := by omega
        have hcX : ∀ j, (g ≤ j ∧ j ≤ g + 1 + 1) → j < W2.heap.size := fun j h => by omega
        have hy1 : Enc.Sl lnE W2 (fun j => (X j ∨ (g ≤ j ∧ j ≤ g + 1 + 1)) ∨ (Value.slice none 0 0).ownBlock = some j) (.slice A k c) (s.links.take k) := (Sl.front (s3.mono fun j hj h => by
          rcases h with (h | h) | h
          · exact h
          · omega
          · cases h) hk).ext hx2w
        clear hd hbt hbf
        go_upto_region 6 with (at_builtin; refine wpList_own elt_ln 25 Tryz.underlying25 rfl _ _ rfl (Own.nil 53 lnE W2 W2 (fun j => X j ∨ (g ≤ j ∧ j ≤ g + 1 + 1))) rfl (Ext.rfl' W2) (m := s.links.take k) (y := .slice A k c) rfl hy1 (fun h => h.elim (fun h => by have := hXl _ h; omega) (fun h => by omega)) (by rw [List.length_take]; simp only [List.length_nil]; omega) (by rw [List.length_take]; simp only [List.length_nil]; omega) ?_; intro l1 A1 c1 w3 hl1 hown1 hx3_ hc3)
        have hL3 := hLr.ext hx3_
        have l0 := (hL3.cell 0).trans rfl
        have l1_ := (hL3.cell 1).trans rfl
        have l2_ := (hL3.cell 2).trans rfl
        have l3_ := (hL3.cell 3).trans rfl
        have hxa : Ext w3 (w3.alloc (.cells #[str x.name, str x.url, .int .u64 x.till, .bool x.made] 53)) := (Ext.rfl' w3).alloc' _
        have hl1l : l1.length = k := by rw [hl1.out]; simp; omega
        have hlit : Enc.Sl lnE (w3.alloc (.cells #[str x.name, str x.url, .int .u64 x.till, .bool x.made] 53)) (fun j => (X j ∨ (g ≤ j ∧ j ≤ g + 1 + 1)) ∨ (Value.slice A1 l1.length c1).ownBlock = some j) (.slice (some ⟨w3.heap.size, 0, none⟩) 1 1) [x] :=
          Sl.one (E := lnE) 53 (cs := lcells x) (ln_rep.2 ⟨rfl, hx1, hx2, hx3⟩) _ rfl (fun h => by
            have := hx3_.size
            rcases h with (h | h) | h
            · have := hXl _ h; omega
            · omega
            · have := (hown1.lt _ h).2; omega)
        have HL1 := hide hl1l
        clear hl1l
        go_upto_region 7 with (at_builtin; go_loud (refine wpList_own elt_ln 25 Tryz.underlying25 rfl _ _ rfl (hown1.ext hxa) rfl (hx3_.trans' hxa) (m := [x]) (y := .slice (some ⟨w3.heap.size, 0, none⟩) 1 1) rfl hlit (fun h => by have := (hx3_.trans' hxa).size; rcases h with h | h; (have := hXl _ h; omega); omega) (by have := HL1.out; simp only [List.length_singleton]; omega) (by have := HL1.out; simp only [List.length_singleton]; omega) ?_; intro l2 A2 c2 w4 hl2 hown2 hx4 hc4))
        have hl2l : Hid (l2.length = k + 1) := hide (by rw [hl2.out]; simp; exact HL1.out)
        clear b2 l0 l1_ l2_ l3_ hlit hxa hL3 hc3 hc4
        have hB4 := hBr.ext hx4
        have b2 := (hB4.cell 2).trans rfl
        have hy3 : Enc.Sl lnE w4 (fun j => (X j ∨ (g ≤ j ∧ j ≤ g + 1 + 1)) ∨ (Value.slice A2 l2.length c2).ownBlock = some j) (.slice (cutA 4 A c k) (s.links.length - k) (c - k)) (s.links.drop k) := (Sl.rest (s3.mono fun j hj h => by
          rcases h with (h | h) | h
          · exact h
          · omega
          · have := (hown2.lt j h).1; have := hx2w.size; omega) hk).ext (hx2w.trans' hx4)
        have hsd : (s.links.drop k).length = s.links.length - k := List.length_drop
        go_upto_region 8 with (at_builtin; refine wpList_own elt_ln 25 Tryz.underlying25 rfl _ _ rfl hown2 rfl hx4 (m := s.links.drop k) (y := .slice (cutA 4 A c k) (s.links.length - k) (c - k)) rfl hy3 (fun h => by have := hx4.size; rcases h with h | h; (have := hXl _ h; omega); omega) (by have := hl2l.out; rw [hsd]; omega) (by have := hl2l.out; rw [hsd]; omega) ?_; intro l3 A3 c3 w5 hl3 hown3 hx5 hc5; have z3 := (hBr.ext hx5).frozen 2; have d3 := ((hBr.ext hx5).cell 2).trans rfl)
        have hs6 : Chg [g] w5 (w5.setCell ⟨g, 2, none⟩ (.slice A3 l3.length c3)) := (Chg.refl _ _).set (by simp) _
        have hB6 := (hBr.ext hx5).set_ 2 (.slice A3 l3.length c3)
        have hR6 := (hRr.ext hx5).chg hs6 (by simp; omega)
        have hown6 := hown3.chg hs6 (fun k hk _ => by have := List.mem_singleton.1 hk; exact .inr (by omega))
        have hx6 := (hx2w.trans' hx5).then_ hs6 (by simp; omega)
        have hs4 := (s4.ext (hx2w.trans' hx5))
        generalize w5.setCell ⟨g, 2, none⟩ (.slice A3 l3.length c3) = W6 at *
        clear b2 z3 d3 hs6 hc5 hown3
        have b0 := (hB6.cell 0).trans rfl
        have b1 := (hB6.cell 1).trans rfl
        have b2 := (hB6.cell 2).trans rfl
        have b3 := (hB6.cell 3).trans rfl
        have e0 := (hR6.cell 0).trans rfl
        have e1 := (hR6.cell 1).trans rfl
        have e2 := (hR6.cell 2).trans rfl
        have e3 := (hR6.cell 3).trans rfl
        have f0 := hR6.frozen 0
        have f1 := hR6.frozen 1
        have f2 := hR6.frozen 2
        have f3 := hR6.frozen 3
        go_wp2
        try simp only [Exit.inBlock, Exit.then]
        have hcf : Chg [g + 1 + 1] W6 _ := (Chg.refl [g + 1 + 1] W6).four (g := g + 1 + 1) (by simp) (.int .u64 s.now) (.int .u64 s.count) (.slice A3 l3.length c3) (.slice B s.sess.length d)
        refine bodyPost_ret (results_cell_row rfl _ _ (g + 1 + 1) 28 #[.int .u64 s.now, .int .u64 s.count, .slice A3 l3.length c3, .slice B s.sess.length d] (0, 0) _ rfl (Blk.four hR6 (.int .u64 s.now) (.int .u64 s.count) (.slice A3 l3.length c3) (.slice B s.sess.length d)) Tryz.underlying28 rfl (by kernel_rfl)) rfl ?_
        have hxf := hx6.then_ hcf (by simp; omega)
        refine ⟨l3, A3, c3, hide ?_, rfl, st_rep.2 ⟨_, _, rfl, s1, s2, ?_, s4.ext hxf⟩, hxf⟩
        · rw [hl3.out, hl2.out, hl1.out]
          unfold lkput
          rw [HK.out]
          simp
        · exact ((hown6.chg hcf (fun k hk _ => by have := List.mem_singleton.1 hk; exact .inr (by omega))).sl).mono fun j _ h => .inl h
end Go.Proofs.YtamimdlaclglkaaGreat

