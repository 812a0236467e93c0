/- A part of the proof of 'StateBytes'. -/
import Derived.Test.YtamimdlaclglkaaGreatB10
import Derived.Test.YtamimdlaclglkaaGreatB17
import Derived.Test.YtamimdlaclglkaaGreatB5
import Derived.RegionTactic
import Derived.Deep.DeepCutAuto
import Derived.Test.YtamimdlaclglkaaGreatB2
import Derived.Laws.Rows
import Derived.Laws.Tables
import Derived.Tactics2
import Derived.Test.YtamimdlaclglkaaGreatB7
namespace Go.Proofs.YtamimdlaclglkaaGreat
set_option linter.unusedVariables false
set_option linter.unusedSimpArgs false
set_option linter.unnecessarySimpa false
set_option maxRecDepth 100000
open Go.RowKit
set_option maxHeartbeats 1600000 in
theorem idxLt_b (p : Ln → Bool) (c0 : Value) (x : Value) (l : List Ln) (w : World) (hl : l.length ≤ 100000) (hx : Enc.Sl lnE w noneAt x l)
    (hp : ∀ W (s : Ln), Ext w W → (s.name.length ≤ maxLen ∧ s.url.length ≤ maxLen ∧ U64 s.till) → Calls Tryz.prog 109 #[.agg #[str s.name, str s.url, .int .u64 s.till, .bool s.made], c0] W fun e W' => e = .returned (.bool (p s)) ∧ Ext W W') :
    Calls Tryz.prog 126 #[x, .func (.func 109) #[] #[c0]] w fun e w' => RetIdx p l w w' e := by
  obtain ⟨A, cap, rfl, k1, k2⟩ := hx.form
  have HP := hide hp
  clear hp
  go_enter Tryz.func126, Tryz.ntmps126
  go_wp2
  go_loopw [8] (fun i wr => ∃ a : Nat, a ≤ l.length ∧ i = .int .i64 a ∧ Hid (∀ m s, m < a → l[m]? = some s → p s = false) ∧ Ext w wr) (fun i _ => (l.length - intOf i).toNat)
  case atStart => exact ⟨0, Nat.zero_le _, rfl, hide (fun m s h => by omega), Ext.rfl' w⟩
  case round =>
    obtain ⟨a, hal, rfl, hlo, hx1⟩ := hrel
    by_cases hlt : a < l.length
    · obtain ⟨ad, s, rfl, hs, hbk, p0, p1, p2, p3, r1, r2, r3⟩ := ln_at (hx.ext hx1) (k := a) hlt
      go_wp2_with fail
      refine (HP.out _ s hx1 ⟨r1, r2, r3⟩).mono ?_
      rintro e w2 ⟨rfl, hx2⟩
      rcases Bool.eq_false_or_eq_true (p s) with hb | hb
      · go_wp2
        go_ret
        refine ⟨⟨a, rfl, hide (.inr ⟨a, rfl, hlt, hlo.out, fun t ht => ?_⟩)⟩, hx1.trans' hx2⟩
        rw [hs.out] at ht
        obtain rfl := Option.some.inj ht
        exact hb
      · go_wp2
        go_roundw
        case rel =>
          refine ⟨a + 1, by omega, by go_num, hide fun m t hm ht => ?_, hx1.trans' hx2⟩
          by_cases hma : m < a
          · exact hlo.out m t hma ht
          · obtain rfl : m = a := by omega
            rw [hs.out] at ht
            obtain rfl := Option.some.inj ht
            exact hb
        case measure => simp [intOf]; omega
    · go_wp2
      go_ret
      refine ⟨⟨-1, rfl, hide (.inl ⟨rfl, fun s hs => ?_⟩)⟩, hx1⟩
      obtain ⟨m, hm⟩ := List.mem_iff_getElem?.1 hs
      have hml := (List.getElem?_eq_some_iff.1 hm).1
      exact hlo.out m s (by omega) hm
set_option maxHeartbeats 3200000 in
theorem delLt_b (p : Ln → Bool) (c0 : Value) (x : Value) (l : List Ln) (w0 w : World) (hl : l.length ≤ 100000) (hx : Own 53 lnE w0 w noneAt x l) (hx0 : Ext w0 w)
    (hp : ∀ W (s : Ln), Ext w0 W → (s.name.length ≤ maxLen ∧ s.url.length ≤ maxLen ∧ U64 s.till) → Calls Tryz.prog 109 #[.agg #[str s.name, str s.url, .int .u64 s.till, .bool s.made], c0] W fun e W' => e = .returned (.bool (p s)) ∧ Ext W W') :
    Calls Tryz.prog 108 #[x, .func (.func 109) #[] #[c0]] w fun e w' => RetOwn 53 lnE w0 w' e (l.filter fun a => !p a) := by
  have HI := hide (idxLt_b p c0 x l w hl hx.sl fun W s hW hs => hp W s (hx0.trans' hW) hs)
  have HP := hide hp
  clear hp
  obtain ⟨i0, hi0, hz0, hz1, hz2⟩ := info_parts elt_ln.info
  replace hz1 : i0.size = 4 := hz1
  by_cases hall : ∀ a ∈ l, p a = false
  · have hf : l.filter (fun a => !p a) = l := List.filter_eq_self.2 fun a ha => by rw [hall a ha]; rfl
    rw [hf]
    obtain ⟨A, cap, rfl, k1, k2⟩ := hx.form
    have HA := hide hall
    clear hall hf
    go_enter Tryz.func108, Tryz.ntmps108
    go_wp2_with fail
    refine HI.out.mono ?_
    rintro e w1 ⟨⟨r, rfl, hr⟩, hx1⟩
    have hr1 : r = -1 := by
      rcases hr.out with h | ⟨n, rfl, hn, _, h⟩
      · exact h.1
      · have h1 := h _ (List.getElem?_eq_getElem hn)
        rw [HA.out _ (List.getElem_mem hn)] at h1; cases h1
    subst hr1
    go_wp2
    go_ret
    exact RetOwn.mk (hx.ext hx1) (hx0.trans' hx1)
  · have hpos : 0 < l.length := by
      rcases Nat.eq_zero_or_pos l.length with h | h
      · exact absurd (fun a ha => by rw [List.eq_nil_of_length_eq_zero h] at ha; cases ha) hall
      · exact h
    obtain ⟨g, cap, cur, css, rfl, hg, hb, hc, hm, hs0, ht, he, -⟩ := hx.open_ hpos
    have hm' := hm
    unfold maxLen at hm'
    have HN := hide hall
    clear hall
    have hcl : css.length = l.length := he.1
    replace hs0 : cur.size = cap * 4 := hs0
    replace ht : cur.toList.take (l.length * 4) = css.flatten := ht
    have HC := hide (And.intro hcl (And.intro hs0 ht))
    have hsl0 := hx.sl
    have HG : Hid (w.heap[g]? = some (.cells cur 53 (0, 0))) := hide hg
    clear hcl hs0 ht hg
    go_enter Tryz.func108, Tryz.ntmps108
    go_wp2_with fail
    refine HI.out.mono ?_
    rintro e w1 ⟨⟨r, rfl, hr⟩, hx1⟩
    obtain ⟨n, hn, hnl, hn1, hn2⟩ : ∃ n : Nat, r = n ∧ n < l.length ∧ (∀ m a, m < n → l[m]? = some a → p a = false) ∧ ∀ a, l[n]? = some a → p a = true := by
      rcases hr.out with h | h
      · exact absurd h.2 HN.out
      · exact h
    subst hn
    have hne : ((n : Int) == -1) = false := by first | (simp; done) | (simp; omega)
    obtain ⟨q1, q2⟩ := keepC_first p css l HC.out.1 n hnl hn1 hn2
    have hstart : Hid (∃ cur' : Array Value, w1.heap[g]? = some (.cells cur' 53 (0, 0)) ∧ cur'.size = cap * 4 ∧ cur'.toList.take (n * 4) = ((keepC p css l (n + 1)).map (·.1)).flatten ∧ (keepC p css l (n + 1)).length = n ∧ cur'.toList.drop ((n + 1) * 4) = cur.toList.drop ((n + 1) * 4)) := by
      refine hide ⟨cur, (hx1.block g (Blk.lt (cs := cur) (t := 53) HG.out)).trans HG.out, HC.out.2.1, ?_, q1, rfl⟩
      rw [q2, ← flat_take css 4 n he.lens, ← HC.out.2.2, List.take_take, Nat.min_eq_left (Nat.mul_le_mul_right _ (by omega))]
    clear hr hn1 hn2 q1 q2
    go_wp2
    go_loopw [5, 6] (fun i j wr => ∃ a b : Nat, a < b ∧ b ≤ l.length ∧ i = .int .i64 a ∧ j = .int .i64 b ∧ Hid (∃ cur' : Array Value, wr.heap[g]? = some (.cells cur' 53 (0, 0)) ∧ cur'.size = cap * 4 ∧ cur'.toList.take (a * 4) = ((keepC p css l b).map (·.1)).flatten ∧ (keepC p css l b).length = a ∧ cur'.toList.drop (b * 4) = cur.toList.drop (b * 4)) ∧ Chg [g] w wr) (fun _ j _ => (l.length - intOf j).toNat)
    case atStart =>
      refine ⟨n, n + 1, Nat.lt_succ_self n, hnl, rfl, ?_, hstart, hx1.chg _⟩
      first | rfl | go_num
    case round =>
      obtain ⟨a, b, hab, hbl, rfl, rfl, hst, hcg⟩ := hrel
      have hx0r : Ext w0 wr := hx0.then_ hcg (by simpa using hb)
      by_cases hlt : b < l.length
      · obtain ⟨cur', j1, j2, j3, j4, j5⟩ := hst.out
        have hkeep : ∀ j, b * 4 ≤ j → wr.cell? ⟨g, j, none⟩ = w.cell? ⟨g, j, none⟩ := by
          intro j hj
          rw [cell_of_row wr g j cur' _ _ j1, cell_of_row w g j cur _ _ HG.out, ← Array.getElem?_toList, ← Array.getElem?_toList]
          have e := congrArg (fun z => z[j - b * 4]?) j5
          simp only [List.getElem?_drop] at e
          rw [show b * 4 + (j - b * 4) = j by omega] at e
          exact e
        obtain ⟨ad2, s, hada, hs, hbk, p0, p1, p2, p3, r1, r2, r3⟩ := ln_at hsl0 (k := b) hlt
        obtain rfl := Option.some.inj hada
        simp only [Addr.add_lit, Nat.zero_add] at p0 p1 p2 p3
        have hcb : css[b]? = some (css[b]'(by rw [HC.out.1]; exact hlt)) := List.getElem?_eq_getElem _
        have hrepb := he.2 b _ _ hcb hs.out
        have hcsb : css[b]'(by rw [HC.out.1]; exact hlt) = [str s.name, str s.url, Value.int .u64 s.till, .bool s.made] := (ln_rep.1 hrepb).1
        rw [hcsb] at hcb
        have HCB := hide hcb
        rw [← hkeep _ (by omega)] at p0
        rw [← hkeep _ (by omega)] at p1
        rw [← hkeep _ (by omega)] at p2
        rw [← hkeep _ (by omega)] at p3
        clear hkeep hcb hrepb hcsb
        have HJ := hide (And.intro j1 (And.intro j2 (And.intro j3 (And.intro j4 j5))))
        clear j1 j2 j3 j4 j5
        obtain ⟨gv, hgv⟩ : ∃ gv, wr.heap.size = gv := ⟨_, rfl⟩
        have hV := Blk.new wr 53 ([str s.name, str s.url, Value.int .u64 s.till, .bool s.made]).toArray
        rw [hgv] at hV
        have hxv : Ext w0 (wr.alloc (.cells ([str s.name, str s.url, Value.int .u64 s.till, .bool s.made]).toArray 53)) := hx0r.alloc' _
        go_wp2_with fail
        refine (HP.out _ s hxv ⟨r1, r2, r3⟩).mono ?_
        rintro e w2 ⟨rfl, hx2⟩
        have hV2 := hV.ext hx2
        have y0 := (hV2.cell 0).trans rfl
        have y1 := (hV2.cell 1).trans rfl
        have y2 := (hV2.cell 2).trans rfl
        have y3 := (hV2.cell 3).trans rfl
        have hB2 : Blk w2 g 53 cur' := (Blk.alloc (w := wr) (cs := cur') (t := 53) HJ.out.1 (.cells ([str s.name, str s.url, Value.int .u64 s.till, .bool s.made]).toArray 53)).ext hx2
        have hcg2 : Chg [g] w w2 := (hcg.alloc _).trans (hx2.chg _)
        rcases Bool.eq_false_or_eq_true (p s) with hb | hb
        · have HB := hide hb
          go_wp2
          go_roundw
          case rel =>
            refine ⟨a, b + 1, by omega, hlt, rfl, by first | rfl | go_num, hide ⟨cur', hB2, HJ.out.2.1, ?_, ?_, ?_⟩, hcg2⟩
            · rw [keepC_succ p css l b _ _ HCB.out hs.out, HB.out]; simpa using HJ.out.2.2.1
            · rw [keepC_succ p css l b _ _ HCB.out hs.out, HB.out]; simpa using HJ.out.2.2.2.1
            · have e5 := congrArg (List.drop 4) HJ.out.2.2.2.2
              rw [List.drop_drop, List.drop_drop] at e5
              rw [Nat.succ_mul]; exact e5
          case measure => simp [intOf]; omega
        · have HB := hide hb
          have hsz : a * 4 + 4 ≤ cur'.size := by rw [HJ.out.2.1]; omega
          obtain ⟨u0, u1, u2, u3, z0, z1, z2, z3, f0, f1, f2, f3⟩ := hB2.has4 (a * 4) hsz
          go_wp2
          go_roundw
          case rel =>
            have hB3 := hB2.st4 (a * 4) (str s.name) (str s.url) (.int .u64 s.till) (.bool s.made)
            have hcg3 : Chg [g] w _ := hcg2.st4 (g := g) (by simp) (a * 4) (str s.name) (str s.url) (.int .u64 s.till) (.bool s.made)
            have hlen : (a * 4) + 4 ≤ cur'.toList.length := by rw [Array.length_toList]; exact hsz
            refine ⟨a + 1, b + 1, by omega, hlt, by first | rfl | go_num, by first | rfl | go_num, hide ⟨_, hB3, by simp only [Array.size_setIfInBounds]; exact HJ.out.2.1, ?_, ?_, ?_⟩, hcg3⟩
            · rw [keepC_succ p css l b _ _ HCB.out hs.out, HB.out]
              simp only [Array.toList_setIfInBounds]
              rw [set4 _ _ (str s.name) (str s.url) (.int .u64 s.till) (.bool s.made) hlen, HJ.out.2.2.1, Nat.succ_mul]
              have hkl : (((keepC p css l b).map (·.1)).flatten).length = a * 4 := by
                have := congrArg List.length HJ.out.2.2.1
                rw [List.length_take, Nat.min_eq_left (by omega)] at this
                exact this.symm
              rw [List.take_append_of_le_length (by rw [List.length_append, hkl]; simp)]
              rw [List.take_of_length_le (by rw [List.length_append, hkl]; simp)]
              simp
            · rw [keepC_succ p css l b _ _ HCB.out hs.out, HB.out]; simpa using HJ.out.2.2.2.1
            · simp only [Array.toList_setIfInBounds]
              rw [set4 _ _ (str s.name) (str s.url) (.int .u64 s.till) (.bool s.made) hlen]
              have e5 := congrArg (List.drop 4) HJ.out.2.2.2.2
              rw [List.drop_drop, List.drop_drop] at e5
              rw [Nat.succ_mul, ← e5]
              rw [drop_past _ _ _ (b * 4 - a * 4) (by simp only [List.length_append, List.length_take, List.length_cons, List.length_nil]; omega), List.drop_drop]
              congr 1; omega
          case measure => simp [intOf]; omega
      · obtain rfl : b = l.length := by omega
        obtain ⟨cur', j1, j2, j3, j4, j5⟩ := hst.out
        have hzv : ∀ w, (zeroValue 53).run Tryz.prog w = .ok (.agg #[.string ByteArray.empty, .string ByteArray.empty, .int .u64 0, .bool false]) w := fun w => by simp [zeroValue, typeInfo, hi0, hz0]
        have hsl1 := fun W => run_sl_l (P := Tryz.prog) (A := some ⟨g, 0, none⟩) (n := l.length) (c := cap) (lo := (a : Int)) (kl := .i64) Tryz.underlying25 hi0 hz1 a rfl (by omega) W
        have hsl2 := fun W => run_sl_h (P := Tryz.prog) (A := some ⟨g, 0, none⟩) (n := l.length) (c := cap) (hi := (a : Int)) (kh := .i64) Tryz.underlying25 hi0 hz1 a rfl (by omega) W
        have hcl : ∀ ty, (Builtin.clear_ #[25] ty #[.slice (cutA 4 (some ⟨g, 0, none⟩) cap a) (l.length - a) (cap - a)]).run Tryz.prog wr = .ok (.tuple #[]) (wr.setRow g (cur'.toList.take (a * 4) ++ (Builtin.zeroCells (Value.cells (.agg #[.string ByteArray.empty, .string ByteArray.empty, .int .u64 0, .bool false])) (l.length - a)).toList ++ cur'.toList.drop (a * 4 + (Builtin.zeroCells (Value.cells (.agg #[.string ByteArray.empty, .string ByteArray.empty, .int .u64 0, .bool false])) (l.length - a)).toList.length)).toArray) := by
          intro ty
          rw [cutA_own (by omega)]
          exact run_clearK (P := Tryz.prog) 25 53 ty _ Tryz.underlying25 hzv g (a * 4) (l.length - a) (cap - a) cur' 53 (by omega) j1 (by rw [j2]; show a * 4 + (l.length - a) * 4 ≤ cap * 4; omega) (zeros_one _ _ (by decide))
        have hOwn : ∀ W', W' = wr.setRow g (cur'.toList.take (a * 4) ++ (Builtin.zeroCells (Value.cells (.agg #[.string ByteArray.empty, .string ByteArray.empty, .int .u64 0, .bool false])) (l.length - a)).toList ++ cur'.toList.drop (a * 4 + (Builtin.zeroCells (Value.cells (.agg #[.string ByteArray.empty, .string ByteArray.empty, .int .u64 0, .bool false])) (l.length - a)).toList.length)).toArray → RetOwn 53 lnE w0 W' (.returned (.slice (some ⟨g, 0, none⟩) a cap)) (l.filter fun a => !p a) := by
          rintro W' rfl
          have hcg' : Chg [g] w (wr.setRow g (cur'.toList.take (a * 4) ++ (Builtin.zeroCells (Value.cells (.agg #[.string ByteArray.empty, .string ByteArray.empty, .int .u64 0, .bool false])) (l.length - a)).toList ++ cur'.toList.drop (a * 4 + (Builtin.zeroCells (Value.cells (.agg #[.string ByteArray.empty, .string ByteArray.empty, .int .u64 0, .bool false])) (l.length - a)).toList.length)).toArray) := hcg.trans (setRow_chg _)
          have hz : (Builtin.zeroCells (Value.cells (.agg #[.string ByteArray.empty, .string ByteArray.empty, .int .u64 0, .bool false])) (l.length - a)).toList.length = (l.length - a) * 4 := by rw [Array.length_toList, size_zeroCells]; rfl
          have hall' := keepC_all p css l HC.out.1
          have hfl : (l.filter fun a => !p a).length = a := by rw [← hall', List.length_map]; exact j4
          have hct : cur'.toList.length = cap * 4 := by rw [Array.length_toList]; exact j2
          refine ⟨_, some ⟨g, 0, none⟩, cap, hide rfl, by rw [hfl], Own.mk _ ((keepC p css l l.length).map (·.1)) (setRow_heap wr g cur' _ _ _ j1) hb (by rw [hfl]; omega) hm ?_ ?_ ?_ (fun h => h), hx0.then_ hcg' (by simpa using hb)⟩
          · simp only [List.size_toArray, List.length_append, List.length_take, List.length_drop, hz, hct]
            show _ = cap * 4
            omega
          · rw [hfl, ← j3]
            show List.take (a * 4) (List.take (a * 4) cur'.toList ++ _ ++ _) = _
            rw [List.append_assoc, List.take_append_of_le_length (by rw [List.length_take, hct]; omega), List.take_take, Nat.min_self]
          · rw [← hall']
            exact ((keepC_each he l.length).mono (fun k _ hk => hk)).chg hcg' (fun k hk _ => .inr (by simpa using hk))
        have HO := hide hOwn
        have HL := hide hcl
        clear hOwn hcl j1 j2 j3 j4 j5 hzv
        go_wp2_with (with_reducible show wpList _ _ _ (Oper.mk none (Op.call _) _ _ _ _ :: _) _ _; refine wpList_clear_run rfl _ _ rfl _ rfl (HL.out _) ?_)
        go_ret
        exact HO.out _ (by simp [Value.cells])
set_option maxHeartbeats 1600000 in
theorem idxLm_b (p : Ln → Bool) (c0 : Value) (x : Value) (l : List Ln) (w : World) (hl : l.length ≤ 100000) (hx : Enc.Sl lnE w noneAt x l)
    (hp : ∀ W (s : Ln), Ext w W → (s.name.length ≤ maxLen ∧ s.url.length ≤ maxLen ∧ U64 s.till) → Calls Tryz.prog 113 #[.agg #[str s.name, str s.url, .int .u64 s.till, .bool s.made], c0] W fun e W' => e = .returned (.bool (p s)) ∧ Ext W W') :
    Calls Tryz.prog 112 #[x, .func (.func 113) #[] #[c0]] w fun e w' => RetIdx p l w w' e := by
  obtain ⟨A, cap, rfl, k1, k2⟩ := hx.form
  have HP := hide hp
  clear hp
  go_enter Tryz.func112, Tryz.ntmps112
  go_wp2
  go_loopw [8] (fun i wr => ∃ a : Nat, a ≤ l.length ∧ i = .int .i64 a ∧ Hid (∀ m s, m < a → l[m]? = some s → p s = false) ∧ Ext w wr) (fun i _ => (l.length - intOf i).toNat)
  case atStart => exact ⟨0, Nat.zero_le _, rfl, hide (fun m s h => by omega), Ext.rfl' w⟩
  case round =>
    obtain ⟨a, hal, rfl, hlo, hx1⟩ := hrel
    by_cases hlt : a < l.length
    · obtain ⟨ad, s, rfl, hs, hbk, p0, p1, p2, p3, r1, r2, r3⟩ := ln_at (hx.ext hx1) (k := a) hlt
      go_wp2_with fail
      refine (HP.out _ s hx1 ⟨r1, r2, r3⟩).mono ?_
      rintro e w2 ⟨rfl, hx2⟩
      rcases Bool.eq_false_or_eq_true (p s) with hb | hb
      · go_wp2
        go_ret
        refine ⟨⟨a, rfl, hide (.inr ⟨a, rfl, hlt, hlo.out, fun t ht => ?_⟩)⟩, hx1.trans' hx2⟩
        rw [hs.out] at ht
        obtain rfl := Option.some.inj ht
        exact hb
      · go_wp2
        go_roundw
        case rel =>
          refine ⟨a + 1, by omega, by go_num, hide fun m t hm ht => ?_, hx1.trans' hx2⟩
          by_cases hma : m < a
          · exact hlo.out m t hma ht
          · obtain rfl : m = a := by omega
            rw [hs.out] at ht
            obtain rfl := Option.some.inj ht
            exact hb
        case measure => simp [intOf]; omega
    · go_wp2
      go_ret
      refine ⟨⟨-1, rfl, hide (.inl ⟨rfl, fun s hs => ?_⟩)⟩, hx1⟩
      obtain ⟨m, hm⟩ := List.mem_iff_getElem?.1 hs
      have hml := (List.getElem?_eq_some_iff.1 hm).1
      exact hlo.out m s (by omega) hm
end Go.Proofs.YtamimdlaclglkaaGreat
namespace Go.Proofs.YtamimdlaclglkaaGreat
set_option linter.unusedVariables false
set_option linter.unusedSimpArgs false
set_option linter.unnecessarySimpa false
set_option maxRecDepth 100000
open Go.RowKit
set_option maxHeartbeats 800000 in
theorem lklive_b (x : Ln) (now : Int) (w : World) : Calls Tryz.prog 110 #[.agg (lcells x).toArray, .int .u64 now] w fun e w' => e = .returned (.bool (live now x)) ∧ Ext w w' := by
  have hx : Ext w (w.alloc (.cells (lcells x).toArray 53)) := (Ext.rfl' w).alloc' _
  rcases Bool.eq_false_or_eq_true (x.till == 0) with h0 | h0
  · have HL : Hid (live now x = true) := by
      have := beq_iff_eq.1 h0
      unfold Hid live; simp [this]
    rw [HL.out]
    go_enter Tryz.func110, Tryz.ntmps110
    go_wp2
    go_ret
    exact ⟨rfl, hx⟩
  · have h0' : ¬ x.till = 0 := by simpa using h0
    rcases Bool.eq_false_or_eq_true (decide (now < x.till)) with h1 | h1
    · have HL : Hid (live now x = true) := by unfold Hid live; simp [of_decide_eq_true h1]
      rw [HL.out]
      go_enter Tryz.func110, Tryz.ntmps110
      go_wp2
      go_ret
      exact ⟨rfl, hx⟩
    · have HL : Hid (live now x = false) := by unfold Hid live; simp [h0', of_decide_eq_false h1]
      rw [HL.out]
      go_enter Tryz.func110, Tryz.ntmps110
      go_wp2
      go_ret
      exact ⟨rfl, hx⟩
set_option maxHeartbeats 800000 in
theorem lkans_b (k : Int) (t : Bytes) (w : World) : Calls Tryz.prog 94 #[.int .i64 k, str t] w fun e w' => e = .returned (.agg (acells (if k = 0 then ⟨0, t⟩ else ⟨k, []⟩)).toArray) ∧ Ext w w' := by
  have hx : ∀ cs, Ext w (w.alloc (.cells cs 33)) := fun cs => (Ext.rfl' w).alloc' _
  rcases Bool.eq_false_or_eq_true (k == 0) with h0 | h0
  · obtain rfl := beq_iff_eq.1 h0
    rw [if_pos rfl]
    go_enter Tryz.func94, Tryz.ntmps94
    go_wp2
    try simp only [Exit.inBlock, Exit.then]
    refine bodyPost_ret (results_cell_row rfl _ _ w.heap.size 33 (acells ⟨0, t⟩).toArray (0, 0) _ rfl (Blk.new w _ _) Tryz.underlying33 rfl (by kernel_rfl)) rfl ?_
    exact ⟨rfl, hx _⟩
  · have h0' : ¬ k = 0 := by simpa using h0
    have h1 : (k != 0) = true := by simpa using h0'
    rw [if_neg h0']
    go_enter Tryz.func94, Tryz.ntmps94
    go_wp2
    try simp only [Exit.inBlock, Exit.then]
    refine bodyPost_ret (results_cell_row rfl _ _ w.heap.size 33 (acells ⟨k, []⟩).toArray (0, 0) _ rfl (Blk.new w _ _) Tryz.underlying33 rfl (by kernel_rfl)) rfl ?_
    exact ⟨rfl, hx _⟩
/-- what the maker's variable holds -/
abbrev mkcells (s : St) (c : Cm) (vt vl vs : Value) : List Value := [vt, .int .u64 s.now, .int .u64 s.count, vl, vs, .int .i64 c.kind, .int .i64 c.client, .int .u64 c.seq, str c.name, str c.url, .int .u64 c.till]
set_option maxHeartbeats 1600000 in
theorem lkmay_b (g : Nat) (s : St) (c : Cm) (vt vl vs : Value) (w : World) (h : Blk w g 107 (mkcells s c vt vl vs).toArray) :
    Calls Tryz.prog 111 #[.pointer (some ⟨g, 0, none⟩)] w fun e w' => e = .returned (.int .i64 (lmay c s.now)) ∧ Ext w w' := by
  have hx : Ext w (w.alloc (.cells (ccells c) 37)) := (Ext.rfl' w).alloc' _
  have a1 : (w.alloc (.cells (ccells c) 37)).cell? ⟨g, 1, none⟩ = some (.int .u64 s.now) := ((h.ext hx).cell 1).trans rfl
  have a5 : w.cell? ⟨g, 5, none⟩ = some (.int .i64 c.kind) := (h.cell 5).trans rfl
  have a6 : w.cell? ⟨g, 6, none⟩ = some (.int .i64 c.client) := (h.cell 6).trans rfl
  have a7 : w.cell? ⟨g, 7, none⟩ = some (.int .u64 c.seq) := (h.cell 7).trans rfl
  have a8 : w.cell? ⟨g, 8, none⟩ = some (str c.name) := (h.cell 8).trans rfl
  have a9 : w.cell? ⟨g, 9, none⟩ = some (str c.url) := (h.cell 9).trans rfl
  have a10 : w.cell? ⟨g, 10, none⟩ = some (.int .u64 c.till) := (h.cell 10).trans rfl
  by_cases hu : c.url = []
  · have HL : Hid (lmay c s.now = 1) := if_pos (.inl hu)
    rw [HL.out]
    clear HL
    obtain ⟨kind, client, seq, name, url, till⟩ := c
    simp only at hu a5 a6 a7 a8 a9 a10
    subst hu
    go_enter Tryz.func111, Tryz.ntmps111
    go_wp2
    go_ret
    exact ⟨rfl, hx⟩
  have hu' : c.url.isEmpty = false := by simpa using hu
  by_cases hl : (400 : Int) < c.url.length
  · have HL : Hid (lmay c s.now = 1) := if_pos (.inr (.inl (by omega)))
    rw [HL.out]
    clear hu
    go_enter Tryz.func111, Tryz.ntmps111
    go_wp2
    go_ret
    exact ⟨rfl, hx⟩
  by_cases ht : 1099511627776 < c.till
  · have HL : Hid (lmay c s.now = 1) := if_pos (.inr (.inr ht))
    rw [HL.out]
    clear hu
    go_enter Tryz.func111, Tryz.ntmps111
    go_wp2
    go_ret
    exact ⟨rfl, hx⟩
  have hn : ¬ (c.url = [] ∨ 400 < c.url.length ∨ 1099511627776 < c.till) := by
    rintro (h | h | h)
    · exact hu h
    · omega
    · omega
  have HN := hide hn
  clear hn hu
  by_cases h0 : c.till = 0
  · have HL : Hid (lmay c s.now = 0) := by unfold Hid lmay; rw [if_neg HN.out, if_neg (by simp [h0])]
    rw [HL.out]
    clear HL HN
    obtain ⟨kind, client, seq, name, url, till⟩ := c
    simp only at h0 a5 a6 a7 a8 a9 a10
    subst h0
    go_enter Tryz.func111, Tryz.ntmps111
    go_wp2
    go_region
    go_wp2
    go_ret
    exact ⟨rfl, hx.drew'⟩
  have h0' : (c.till != 0) = true := by simpa using h0
  by_cases hp : c.till ≤ s.now
  · have HL : Hid (lmay c s.now = 13) := by unfold Hid lmay; rw [if_neg HN.out, if_pos ⟨h0, hp⟩]
    rw [HL.out]
    go_enter Tryz.func111, Tryz.ntmps111
    go_wp2
    go_region
    go_wp2
    go_ret
    exact ⟨rfl, hx.drew'⟩
  · have HL : Hid (lmay c s.now = 0) := by unfold Hid lmay; rw [if_neg HN.out, if_neg (fun h => hp h.2)]
    rw [HL.out]
    go_enter Tryz.func111, Tryz.ntmps111
    go_wp2
    go_region
    go_wp2
    go_ret
    exact ⟨rfl, hx.drew'⟩
set_option maxHeartbeats 1600000 in
theorem lkown_b (g : Nat) (s : St) (c : Cm) (vt vl vs : Value) (x : Ln) (w : World) (h : Blk w g 107 (mkcells s c vt vl vs).toArray) :
    Calls Tryz.prog 114 #[.pointer (some ⟨g, 0, none⟩), .agg (lcells x).toArray] w fun e w' => e = .returned (.bool (lown c x)) ∧ Ext w w' := by
  have hx : Ext w (w.alloc (.cells (lcells x).toArray 53)) := (Ext.rfl' w).alloc' _
  have a9 : (w.alloc (.cells (lcells x).toArray 53)).cell? ⟨g, 9, none⟩ = some (str c.url) := ((h.ext hx).cell 9).trans rfl
  have a10 : (w.alloc (.cells (lcells x).toArray 53)).cell? ⟨g, 10, none⟩ = some (.int .u64 c.till) := ((h.ext hx).cell 10).trans rfl
  have b1 := ((Blk.new w 53 (lcells x).toArray).cell 1).trans rfl
  have b2 := ((Blk.new w 53 (lcells x).toArray).cell 2).trans rfl
  obtain ⟨xn, xu, xt, xm⟩ := x
  obtain ⟨kind, client, seq, name, url, till⟩ := c
  simp only at a9 a10 b1 b2
  by_cases hu : xu = url
  · subst hu
    by_cases ht : xt = till
    · subst ht
      have HL : Hid (lown ⟨kind, client, seq, name, xu, xt⟩ ⟨xn, xu, xt, xm⟩ = true) := by unfold Hid lown; simp
      rw [HL.out]
      go_enter Tryz.func114, Tryz.ntmps114
      go_wp2
      go_region
      go_wp2
      go_ret
      exact ⟨rfl, hx.drew'⟩
    · have HL : Hid (lown ⟨kind, client, seq, name, xu, till⟩ ⟨xn, xu, xt, xm⟩ = false) := by unfold Hid lown; simp [ht]
      have ht' : (xt == till) = false := by simpa using ht
      rw [HL.out]
      go_enter Tryz.func114, Tryz.ntmps114
      go_wp2
      go_region
      go_wp2
      go_ret
      exact ⟨rfl, hx.drew'⟩
  · have HL : Hid (lown ⟨kind, client, seq, name, url, till⟩ ⟨xn, xu, xt, xm⟩ = false) := by unfold Hid lown; simp [hu]
    have hu' : (xu == url) = false := by simpa using hu
    rw [HL.out]
    go_enter Tryz.func114, Tryz.ntmps114
    go_wp2
    go_region
    go_wp2
    go_ret
    exact ⟨rfl, hx.drew'⟩
end Go.Proofs.YtamimdlaclglkaaGreat
namespace Go.Proofs.YtamimdlaclglkaaGreat
set_option linter.unusedVariables false
set_option linter.unusedSimpArgs false
set_option linter.unnecessarySimpa false
set_option maxRecDepth 100000
open Go.RowKit
/-- p, where no walk goes on -/
def Stop (p : Prop) : Prop := p
end Go.Proofs.YtamimdlaclglkaaGreat
namespace Go.Proofs.YtamimdlaclglkaaGreat
set_option linter.unusedVariables false
set_option linter.unusedSimpArgs false
set_option linter.unnecessarySimpa false
set_option maxRecDepth 100000
open Go.RowKit
theorem Blk.row {W : World} {g : Nat} {T : TypeId} {old : Array Value} (h : Blk W g T old) (cs : Array Value) : Blk (W.setRow g cs) g T cs := setRow_heap W g old cs T (0, 0) h
theorem Chg.row {S : List Nat} {W0 W : World} {g : Nat} (h : Chg S W0 W) (hg : g ∈ S) (cs : Array Value) : Chg S W0 (W.setRow g cs) :=
  h.trans ⟨rfl, rfl, rfl, by simp, fun k _ hn => setRow_other W g k cs fun e => hn (e ▸ hg)⟩
section
variable {P : Program} {ops : Array Oper} {rest : List Oper} {o : Oper} {a : Act} {w : World} {Q : Exit → Act → World → Prop}
end
end Go.Proofs.YtamimdlaclglkaaGreat
namespace Go.Proofs.YtamimdlaclglkaaGreat.Rg
set_option linter.unusedVariables false
set_option linter.unusedSimpArgs false
set_option linter.unnecessarySimpa false
set_option maxRecDepth 100000
open Go.RowKit
/-- a function that is named is called in a drawn region -/
theorem enter_fn {P : Program} {ρ : Tmp → Value} {W : World} {o : Oper} {f : FuncId} {xs : Array Operand} {ts : Array TypeId} {args : Array Value} {K : Value → World → Prop} (ho : o.op = .call { callee := .value (.func f), args := xs, argTypes := ts })
    (ha : xs.map (ev ρ) = args) (hF : (callFunc f args).run P W = .ok (.enter f args) W) (hK : Calls P f args W fun e W'' => ∃ v, e = .returned v ∧ K v W'') : Run P o ρ W K :=
  run_enter (by subst ha; unfold execOp; simp [ho, go_sem, resolve, ev]; exact hF) hK
end Go.Proofs.YtamimdlaclglkaaGreat.Rg
