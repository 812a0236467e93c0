/- A part of the proof of 'StateBytes'. -/
import Derived.Test.YtamimdlaclglkaaGreatB10
namespace Go.Proofs.YtamimdlaclglkaaGreat
set_option linter.unusedVariables false
set_option linter.unusedSimpArgs false
set_option linter.unnecessarySimpa false
set_option maxRecDepth 100000
open Go.RowKit
def RetAsk (r : An × Bool) (w w' : World) (e : Ending) : Prop := e = .returned (.tuple #[.agg (acells r.1).toArray, .bool r.2]) ∧ Ext w w'
theorem new3 (w : World) (T1 T2 T3 : TypeId) (c1 c2 c3 : Array Value) : Blk (((w.alloc (.cells c1 T1)).alloc (.cells c2 T2)).alloc (.cells c3 T3)) w.heap.size T1 c1 ∧ Blk (((w.alloc (.cells c1 T1)).alloc (.cells c2 T2)).alloc (.cells c3 T3)) (w.heap.size + 1) T2 c2 ∧ Blk (((w.alloc (.cells c1 T1)).alloc (.cells c2 T2)).alloc (.cells c3 T3)) (w.heap.size + 2) T3 c3 ∧ Ext w (((w.alloc (.cells c1 T1)).alloc (.cells c2 T2)).alloc (.cells c3 T3)) := by
  have h2 := Blk.new (w.alloc (.cells c1 T1)) T2 c2
  rw [show (w.alloc (.cells c1 T1)).heap.size = w.heap.size + 1 by simp] at h2
  have h3 := Blk.new ((w.alloc (.cells c1 T1)).alloc (.cells c2 T2)) T3 c3
  rw [show ((w.alloc (.cells c1 T1)).alloc (.cells c2 T2)).heap.size = w.heap.size + 2 by simp] at h3
  exact ⟨((Blk.new w T1 c1).alloc _).alloc _, h2.alloc _, h3, (((Ext.rfl' w).alloc' _).alloc' _).alloc' _⟩
theorem kept_none {d : List Dn} {q : Int} (h : ∀ m x, m < d.length → d[m]? = some x → decide (x.seq = q) = false) : kept d q = none := by
  unfold kept
  rw [List.find?_eq_none.2, Option.map_none]
  intro x hx
  obtain ⟨m, hm⟩ := List.mem_iff_getElem?.1 hx
  rw [h m x (List.getElem?_eq_some_iff.1 hm).1 hm]; simp
theorem kept_some {d : List Dn} {q : Int} (n : Nat) (x : Dn) (hx : d[n]? = some x) (he : x.seq = q) (h : ∀ m y, m < n → d[m]? = some y → decide (y.seq = q) = false) : kept d q = some x.an := by
  unfold kept
  have hf : d.find? (fun y => decide (y.seq = q)) = some x := by
    rw [List.find?_eq_some_iff_getElem]
    obtain ⟨h1, h2⟩ := List.getElem?_eq_some_iff.1 hx
    refine ⟨by simpa using he, n, h1, h2, fun j hj => ?_⟩
    rw [h j _ hj (List.getElem?_eq_getElem (by omega))]; rfl
  rw [hf]; rfl
set_option maxHeartbeats 3200000 in
theorem sask_b (s : St) (cs : List Value) (c : Cm) (w : World) (hs : stE.rep w noneAt cs s) (hc : c.wide) (hr : RiseS s.sess) (hl : s.sess.length ≤ 100000) :
    Calls Tryz.prog 28 #[.agg cs.toArray, cv c] w fun e w' => RetAsk (ask s c.client c.seq) w w' e := by
  obtain ⟨vl, vs, rfl, s1, s2, s3, s4⟩ := st_rep.1 hs
  obtain ⟨Al, cl, rfl, -, -⟩ := s3.form
  obtain ⟨As, cs', rfl, -, -⟩ := s4.form
  obtain ⟨kind, client, seq, name, url, till⟩ := c
  obtain ⟨k0, k1, c0, c1, q0, q1, n1, u1, t0, t1⟩ := hc
  simp only at k0 k1 c0 c1 q0 q1 n1 u1 t0 t1
  obtain ⟨hB, hC, hR, hx0⟩ := new3 w 28 37 33 #[.int .u64 s.now, .int .u64 s.count, .slice Al s.links.length cl, .slice As s.sess.length cs'] (ccells ⟨kind, client, seq, name, url, till⟩) #[.int .i64 0, str []]
  obtain ⟨S, hS⟩ : ∃ S, sown s.sess client = S := ⟨_, rfl⟩
  have HO := hide (fun W h => own_b noneAt (.slice As s.sess.length cs') s.sess ⟨kind, client, seq, name, url, till⟩ W hl h ⟨c0, c1⟩ hr)
  have HASK : Hid (ask s client seq = if client < 0 ∨ 4 ≤ client ∨ seq = 0 then (⟨1, []⟩, true) else match kept S.done seq with | some a => (a, true) | none => if stale seq S.high = true then (⟨14, []⟩, true) else (⟨0, []⟩, false)) := by
    unfold Hid; rw [← hS]; rfl
  have HS := hide hS
  clear hS
  by_cases hbad : client < 0 ∨ 4 ≤ client ∨ seq = 0
  · have HA : Hid (ask s client seq = (⟨1, []⟩, true)) := by unfold Hid; rw [HASK.out, if_pos hbad]
    show Calls Tryz.prog 28 _ w fun e w' => RetAsk (ask s client seq) w w' e
    rw [HA.out]
    have key : ∀ W1, Ext (((w.alloc (.cells #[.int .u64 s.now, .int .u64 s.count, .slice Al s.links.length cl, .slice As s.sess.length cs'] 28)).alloc (.cells (ccells ⟨kind, client, seq, name, url, till⟩) 37)).alloc (.cells #[.int .i64 0, str []] 33)) W1 →
        Blk ((W1.setCell ⟨w.heap.size + 2, 0, none⟩ (.int .i64 1)).setCell ⟨w.heap.size + 2, 1, none⟩ (str [])) (w.heap.size + 2) 33 #[.int .i64 1, str []] ∧ Ext w ((W1.setCell ⟨w.heap.size + 2, 0, none⟩ (.int .i64 1)).setCell ⟨w.heap.size + 2, 1, none⟩ (str [])) := fun W1 hx =>
      ⟨((hR.ext hx).set_ 0 _).set_ 1 _, (hx0.trans' hx).then_ (((Chg.refl [w.heap.size + 2] W1).set (by simp) _).set (by simp) _) (by simp)⟩
    have HK := hide key
    clear key
    by_cases b1 : client < 0
    · go_enter Tryz.func28, Tryz.ntmps28
      go_wp2_with fail
      refine (bad_b 1 _).mono ?_
      rintro e W1 ⟨rfl, hx1⟩
      have hR1 := hR.ext hx1
      have y0 := (hR1.cell 0).trans rfl
      have y1 := (hR1.cell 1).trans rfl
      have z0 := hR1.frozen 0
      have z1 := hR1.frozen 1
      go_wp2
      try simp only [Exit.inBlock, Exit.then]
      refine bodyPost_ret (results_cell2 rfl _ _ (w.heap.size + 2) 33 #[.int .i64 1, str []] (0, 0) _ rfl (HK.out W1 hx1).1 Tryz.underlying33 rfl (by kernel_rfl)) rfl ?_
      exact ⟨rfl, (HK.out W1 hx1).2⟩
    · by_cases b2 : 4 ≤ client
      · go_enter Tryz.func28, Tryz.ntmps28
        go_wp2_with fail
        refine (bad_b 1 _).mono ?_
        rintro e W1 ⟨rfl, hx1⟩
        have hR1 := hR.ext hx1
        have y0 := (hR1.cell 0).trans rfl
        have y1 := (hR1.cell 1).trans rfl
        have z0 := hR1.frozen 0
        have z1 := hR1.frozen 1
        go_wp2
        try simp only [Exit.inBlock, Exit.then]
        refine bodyPost_ret (results_cell2 rfl _ _ (w.heap.size + 2) 33 #[.int .i64 1, str []] (0, 0) _ rfl (HK.out W1 hx1).1 Tryz.underlying33 rfl (by kernel_rfl)) rfl ?_
        exact ⟨rfl, (HK.out W1 hx1).2⟩
      · obtain rfl : seq = 0 := by omega
        go_enter Tryz.func28, Tryz.ntmps28
        go_wp2_with fail
        refine (bad_b 1 _).mono ?_
        rintro e W1 ⟨rfl, hx1⟩
        have hR1 := hR.ext hx1
        have y0 := (hR1.cell 0).trans rfl
        have y1 := (hR1.cell 1).trans rfl
        have z0 := hR1.frozen 0
        have z1 := hR1.frozen 1
        go_wp2
        try simp only [Exit.inBlock, Exit.then]
        refine bodyPost_ret (results_cell2 rfl _ _ (w.heap.size + 2) 33 #[.int .i64 1, str []] (0, 0) _ rfl (HK.out W1 hx1).1 Tryz.underlying33 rfl (by kernel_rfl)) rfl ?_
        exact ⟨rfl, (HK.out W1 hx1).2⟩
  · have b1 : ¬ client < 0 := fun h => hbad (.inl h)
    have b2 : ¬ 4 ≤ client := fun h => hbad (.inr (.inl h))
    have b3 : (seq == 0) = false := by simp; exact fun h => hbad (.inr (.inr h))
    have HA : Hid (ask s client seq = match kept S.done seq with | some a => (a, true) | none => if stale seq S.high = true then (⟨14, []⟩, true) else (⟨0, []⟩, false)) := by unfold Hid; rw [HASK.out, if_neg hbad]
    show Calls Tryz.prog 28 _ w fun e w' => RetAsk (ask s client seq) w w' e
    have key : ∀ W1 (a b : Value), Ext (((w.alloc (.cells #[.int .u64 s.now, .int .u64 s.count, .slice Al s.links.length cl, .slice As s.sess.length cs'] 28)).alloc (.cells (ccells ⟨kind, client, seq, name, url, till⟩) 37)).alloc (.cells #[.int .i64 0, str []] 33)) W1 →
        Blk ((W1.setCell ⟨w.heap.size + 2, 0, none⟩ a).setCell ⟨w.heap.size + 2, 1, none⟩ b) (w.heap.size + 2) 33 #[a, b] ∧ Ext w ((W1.setCell ⟨w.heap.size + 2, 0, none⟩ a).setCell ⟨w.heap.size + 2, 1, none⟩ b) := fun W1 a b hx =>
      ⟨((hR.ext hx).set_ 0 _).set_ 1 _, (hx0.trans' hx).then_ (((Chg.refl [w.heap.size + 2] W1).set (by simp) _).set (by simp) _) (by simp)⟩
    have HK := hide key
    clear key hbad HASK
    have s4' := s4.ext hx0
    go_enter Tryz.func28, Tryz.ntmps28
    go_wp2_with fail
    refine (HO.out _ s4').mono ?_
    rintro e W1 ⟨ce, rfl, hrep, hx1⟩
    rw [show sown s.sess (⟨kind, client, seq, name, url, till⟩ : Cm).client = S from HS.out] at hrep
    obtain ⟨v, rfl, r1, r2, r3⟩ := se_rep.1 hrep
    obtain ⟨Av, cv', rfl, m1, m2⟩ := r3.form
    unfold maxLen at m2
    obtain ⟨g6, hg6⟩ : ∃ g, W1.heap.size = g := ⟨_, rfl⟩
    have hO := Blk.new W1 56 (secells S (.slice Av S.done.length cv')).toArray
    rw [hg6] at hO
    have hxo : Ext W1 (W1.alloc (.cells (secells S (.slice Av S.done.length cv')).toArray 56)) := (Ext.rfl' W1).alloc' _
    have hC1 := (hC.ext hx1).ext hxo
    have hR1 := (hR.ext hx1).ext hxo
    have r3' := r3.ext hxo
    have hx1' := hx1.trans' hxo
    go_wp2
    go_loopw [33] (fun i wr => ∃ a : Nat, a ≤ S.done.length ∧ i = .int .i64 a ∧ Hid (∀ m x, m < a → S.done[m]? = some x → decide (x.seq = seq) = false) ∧ Ext (W1.alloc (.cells (secells S (.slice Av S.done.length cv')).toArray 56)) wr) (fun i _ => (S.done.length - intOf i).toNat)
    case atStart => exact ⟨0, Nat.zero_le _, rfl, hide fun m x h => by omega, Ext.rfl' _⟩
    case round =>
      obtain ⟨a, hal, rfl, hlo, hxr⟩ := hrel
      have hCr := hC1.ext hxr
      have hRr := hR1.ext hxr
      have hOr := hO.ext hxr
      have w2 := (hCr.cell 2).trans rfl
      have l1 := hCr.lt
      have l2 := hRr.lt
      have l3 := hOr.lt
      by_cases hlt : a < S.done.length
      · obtain ⟨ad, d, rfl, hd, hbk, p0, p1, p2, d1, d2, d3⟩ := dn_at (r3'.ext hxr) (k := a) hlt
        have y0 := (hRr.cell 0).trans rfl
        have y1 := (hRr.cell 1).trans rfl
        have z0 := hRr.frozen 0
        have z1 := hRr.frozen 1
        by_cases heq : d.seq = seq
        · have he2 : (d.seq == seq) = true := by simpa using heq
          have HF : Hid (ask s client seq = (d.an, true)) := by
            unfold Hid; rw [HA.out, kept_some a d hd.out heq hlo.out]
          go_wp2
          try simp only [Exit.inBlock, Exit.then]
          refine bodyPost_ret (results_cell2 rfl _ _ (w.heap.size + 2) 33 (acells d.an).toArray (0, 0) _ rfl ((HK.out wr _ _ (hx1'.trans' hxr)).1.alloc _) Tryz.underlying33 rfl (by kernel_rfl)) rfl ?_
          rw [HF.out]
          exact ⟨rfl, (HK.out wr _ _ (hx1'.trans' hxr)).2.alloc' _⟩
        · have he2 : (d.seq == seq) = false := by simpa using heq
          go_wp2
          go_roundw
          case rel =>
            refine ⟨a + 1, by omega, by first | rfl | go_num, hide fun m x hm hx => ?_, hxr.alloc' _⟩
            by_cases hma : m < a
            · exact hlo.out m x hma hx
            · obtain rfl : m = a := by omega
              rw [hd.out] at hx
              obtain rfl := Option.some.inj hx
              simpa using heq
          case measure => simp [intOf]; omega
      · obtain rfl : a = S.done.length := by omega
        have hkn := kept_none hlo.out
        have HF : Hid (ask s client seq = if stale seq S.high = true then (⟨14, []⟩, true) else (⟨0, []⟩, false)) := by
          unfold Hid; rw [HA.out, hkn]
        clear hkn
        have v1 := (hOr.cell 1).trans rfl
        go_wp2_with fail
        refine (stale_b seq S.high _ ⟨q0, q1⟩ r2).mono ?_
        rintro e w' ⟨rfl, rfl⟩
        rcases Bool.eq_false_or_eq_true (stale seq S.high) with hst | hst
        · have HT := hide hst
          rw [HT.out]
          clear hst
          have hRx := hRr
          go_wp2_with fail
          refine (bad_b 14 _).mono ?_
          rintro e W9 ⟨rfl, hx9⟩
          have hR9 := hRr.ext hx9
          have y0 := (hR9.cell 0).trans rfl
          have y1 := (hR9.cell 1).trans rfl
          have z0 := hR9.frozen 0
          have z1 := hR9.frozen 1
          go_wp2
          try simp only [Exit.inBlock, Exit.then]
          refine bodyPost_ret (results_cell2 rfl _ _ (w.heap.size + 2) 33 #[.int .i64 14, str []] (0, 0) _ rfl (HK.out _ _ _ ((hx1'.trans' hxr).trans' hx9)).1 Tryz.underlying33 rfl (by kernel_rfl)) rfl ?_
          rw [HF.out, if_pos HT.out]
          exact ⟨rfl, (HK.out _ _ _ ((hx1'.trans' hxr).trans' hx9)).2⟩
        · have HT := hide hst
          rw [HT.out]
          clear hst
          have y0 := (hRr.cell 0).trans rfl
          have y1 := (hRr.cell 1).trans rfl
          have z0 := hRr.frozen 0
          have z1 := hRr.frozen 1
          go_wp2
          try simp only [Exit.inBlock, Exit.then]
          refine bodyPost_ret (results_cell2 rfl _ _ (w.heap.size + 2) 33 #[.int .i64 0, str []] (0, 0) _ rfl (HK.out _ _ _ (hx1'.trans' hxr)).1 Tryz.underlying33 rfl (by kernel_rfl)) rfl ?_
          rw [HF.out, if_neg (by rw [HT.out]; simp)]
          exact ⟨rfl, (HK.out _ _ _ (hx1'.trans' hxr)).2⟩
end Go.Proofs.YtamimdlaclglkaaGreat
namespace Go.Proofs.YtamimdlaclglkaaGreat
set_option linter.unusedVariables false
set_option linter.unusedSimpArgs false
set_option linter.unnecessarySimpa false
set_option maxRecDepth 100000
open Go.RowKit
section
variable {α : Type} {T : TypeId} {E : Enc α} {w0 w w' : World} {X : Avoid} {g cap : Nat} {l : List α}
theorem Own.blk (h : Own T E w0 w X (.slice (some ⟨g, 0, none⟩) l.length cap) l) (hn : 0 < l.length) : ∃ cur css, Blk w g T cur ∧ w0.heap.size ≤ g ∧ l.length ≤ cap ∧ cap ≤ maxLen ∧ cur.size = cap * E.size ∧ cur.toList.take (l.length * E.size) = css.flatten ∧ Enc.Each E w (fun k => X k ∨ k = g) css l ∧ ¬ X g := by
  obtain ⟨g', cap', cur, css, he, h1, h2, h3, h4, h5, h6, h7, h8⟩ := h.open_ hn
  simp only [Value.slice.injEq, Option.some.injEq, Addr.mk.injEq, and_true, true_and] at he
  obtain ⟨rfl, rfl⟩ := he
  exact ⟨cur, css, h1, h2, h3, h4, h5, h6, h7, h8⟩
theorem flat_set (css : List (List Value)) (k i : Nat) (cs : List Value) (h : ∀ c ∈ css, c.length = k) (hc : cs.length = k) (hi : i < css.length) : (css.set i cs).flatten = css.flatten.take (i * k) ++ cs ++ css.flatten.drop ((i + 1) * k) := by
  rw [flat_take css k i h, flat_drop css k (i + 1) h, List.set_eq_take_append_cons_drop, if_pos hi, List.flatten_append, List.flatten_cons, List.append_assoc]
theorem Each.set {css : List (List Value)} (h : Enc.Each E w X css l) (i : Nat) {cs : List Value} {a : α} (hr : E.rep w X cs a) : Enc.Each E w X (css.set i cs) (l.set i a) := by
  refine ⟨by simp [h.1], fun k c b h1 h2 => ?_⟩
  rw [List.getElem?_set] at h1 h2
  by_cases hki : i = k
  · rw [if_pos hki] at h1 h2
    split at h1
    · rename_i hk
      rw [if_pos (by rw [← h.1]; exact hk)] at h2
      obtain rfl := Option.some.inj h1
      obtain rfl := Option.some.inj h2
      exact hr
    · cases h1
  · rw [if_neg hki] at h1 h2
    exact h.2 k c b h1 h2
/-- whatever the walk wrote: if the block holds the element's cells there, the slice reads the list with that element -/
theorem Own.put (h : Own T E w0 w X (.slice (some ⟨g, 0, none⟩) l.length cap) l) {i : Nat} (hi : i < l.length) {a : α} {cs : List Value} (hr : E.rep w (fun k => X k ∨ k = g) cs a) (hcg : Chg [g] w w')
    (hw : ∀ cur, Blk w g T cur → i * E.size + E.size ≤ cur.size → ∃ cur', Blk w' g T cur' ∧ cur'.toList = cur.toList.take (i * E.size) ++ cs ++ cur.toList.drop (i * E.size + E.size)) : Own T E w0 w' X (.slice (some ⟨g, 0, none⟩) l.length cap) (l.set i a) := by
  obtain ⟨cur, css, h1, h2, h3, h4, h5, h6, h7, h8⟩ := h.blk (by omega)
  have hil : (i + 1) * E.size ≤ l.length * E.size := Nat.mul_le_mul_right _ hi
  have hic : l.length * E.size ≤ cap * E.size := Nat.mul_le_mul_right _ h3
  have e0 : (i + 1) * E.size = i * E.size + E.size := Nat.succ_mul _ _
  obtain ⟨cur', k1, k2⟩ := hw cur h1 (by rw [h5]; omega)
  have hcl := E.len hr
  have hct : cur.toList.length = cap * E.size := by rw [Array.length_toList, h5]
  have hfl := flat_len css E.size h7.lens
  rw [h7.1] at hfl
  have hl2 : (l.set i a).length = l.length := by simp
  have hm := Own.mk (T := T) (E := E) (w0 := w0) (w := w') (X := X) (g := g) (cap := cap) (l := l.set i a) cur' (css.set i cs) k1 h2 (by rw [hl2]; exact h3) h4 ?_ ?_ ((Each.set h7 i hr).chg hcg fun k hk _ => .inr (by simpa using hk)) h8
  · rw [hl2] at hm; exact hm
  · rw [← Array.length_toList, k2]
    simp only [List.length_append, List.length_take, List.length_drop, hct, hcl]
    omega
  · rw [hl2, k2, flat_set css E.size i cs h7.lens hcl (by rw [h7.1]; exact hi), ← h6]
    rw [List.take_take, Nat.min_eq_left (by omega), e0]
    rw [List.take_append, List.length_append, List.length_take, hcl, hct, Nat.min_eq_left (by omega)]
    rw [List.take_of_length_le (by rw [List.length_append, List.length_take, hcl, hct]; omega)]
    congr 1
    rw [List.drop_take]
end
theorem put3_cells {W : World} {g o : Nat} {T : TypeId} {cur : Array Value} {a b c : Value} (h : Blk W g T cur) (ho : o + 3 ≤ cur.size) :
    ∃ cur', Blk (((W.setCell ⟨g, o, none⟩ a).setCell ⟨g, o + 1, none⟩ b).setCell ⟨g, o + 2, none⟩ c) g T cur' ∧ cur'.toList = cur.toList.take o ++ [a, b, c] ++ cur.toList.drop (o + 3) :=
  ⟨_, h.st3 o a b c, by simp only [Array.toList_setIfInBounds]; exact set3 _ _ _ _ _ (by rw [Array.length_toList]; exact ho)⟩
/-- the last of an element's three cells is written over -/
theorem Own.third {α : Type} {T : TypeId} {E : Enc α} {w0 w : World} {X : Avoid} {g cap : Nat} {l : List α} (h : Own T E w0 w X (.slice (some ⟨g, 0, none⟩) l.length cap) l) (hE : E.size = 3) {i : Nat} (hi : i < l.length) {a : α} {c0 c1 v : Value}
    (e0 : w.cell? ⟨g, i * 3, none⟩ = some c0) (e1 : w.cell? ⟨g, i * 3 + 1, none⟩ = some c1) (hr : E.rep w (fun k => X k ∨ k = g) [c0, c1, v] a) : Own T E w0 (w.setCell ⟨g, i * 3 + 2, none⟩ v) X (.slice (some ⟨g, 0, none⟩) l.length cap) (l.set i a) := by
  refine h.put hi hr ((Chg.refl _ _).set (by simp) v) fun cur hB ho => ⟨_, hB.set_ (i * 3 + 2) v, ?_⟩
  rw [hE] at ho ⊢
  rw [hB.cell] at e0 e1
  have ho' : i * 3 + 3 ≤ cur.toList.length := by rw [Array.length_toList]; exact ho
  simp only [Array.toList_setIfInBounds]
  rw [← set3 cur.toList (i * 3) c0 c1 v ho']
  congr 1
  rw [← Array.getElem?_toList] at e0 e1
  obtain ⟨h0, e0⟩ := List.getElem?_eq_some_iff.1 e0
  obtain ⟨h1, e1⟩ := List.getElem?_eq_some_iff.1 e1
  rw [← e0, ← e1]
  apply List.ext_getElem?
  intro j
  simp only [List.getElem?_set, List.length_set]
  by_cases hj1 : i * 3 + 1 = j
  · subst hj1; have h1' : i * 3 + 1 < cur.size := by simpa using h1
    simp [h1']
  · by_cases hj0 : i * 3 = j
    · subst hj0; have h0' : i * 3 < cur.size := by simpa using h0
      simp [h0']
    · simp [hj0, hj1]
end Go.Proofs.YtamimdlaclglkaaGreat
namespace Go.Proofs.YtamimdlaclglkaaGreat
set_option linter.unusedVariables false
set_option linter.unusedSimpArgs false
set_option linter.unnecessarySimpa false
set_option maxRecDepth 100000
open Go.RowKit
set_option maxHeartbeats 1600000 in
theorem with_b (X : Avoid) (w : World) (hX : ∀ k, X k → k < w.heap.size) (x : Value) (l : List Se) (s : Se) (A2 : Option Addr) (c2 : Nat) (hl : l.length ≤ 90000) (hx : Enc.Sl seE w X x l) (hs : seE.rep w X (secells s (.slice A2 s.done.length c2)) s) (hm : RiseS l) :
    Calls Tryz.prog 67 #[x, .agg #[.int .i64 s.client, .int .u64 s.high, .slice A2 s.done.length c2]] w fun e w' => RetOwnX 56 seE w w' X e (swith l s) := by
  obtain ⟨_, he, s1, s2, s3⟩ := se_rep.1 hs
  obtain ⟨A, cap, rfl, -, -⟩ := hx.form
  have HC := hide (fun W hXW h => cloneX_set X W hXW (.slice A l.length cap) l (by omega) h)
  have HA := hide (fun W h => at_b (.slice A l.length cap) l s.client W (by omega) h s1 hm)
  have hB := Blk.new w 56 #[.int .i64 s.client, .int .u64 s.high, .slice A2 s.done.length c2]
  have hx0 : Ext w (w.alloc (.cells #[.int .i64 s.client, .int .u64 s.high, .slice A2 s.done.length c2] 56)) := (Ext.rfl' w).alloc' _
  clear he
  obtain ⟨i, is, hsat⟩ : ∃ i is, sat l s.client = (i, is) := ⟨_, _, rfl⟩
  have HS : Hid (sat l s.client = (i, is)) := hide hsat
  have hil : i ≤ l.length := by
    have : i = cntP (ltC s.client) l := (congrArg Prod.fst hsat).symm
    rw [this]; exact cntP_le _ _
  have hit : is = true → i < l.length := by
    intro h
    rcases Nat.lt_or_ge i l.length with h1 | h1
    · exact h1
    · have e1 : i = cntP (ltC s.client) l := (congrArg Prod.fst hsat).symm
      have e2 : is = (l[cntP (ltC s.client) l]?).any fun t => decide (t.client = s.client) := (congrArg Prod.snd hsat).symm
      rw [← e1, List.getElem?_eq_none h1] at e2
      rw [e2] at h; cases h
  clear hsat
  go_enter Tryz.func67, Tryz.ntmps67
  go_wp2_with fail
  refine (HC.out _ (fun k hk => Nat.lt_of_lt_of_le (hX k hk) hx0.size) (hx.ext hx0)).mono ?_
  rintro e W1 ⟨m, Am, cm, hmm, rfl, hown, hx1⟩
  have hm' := hmm.out.symm
  subst hm'
  have hB1 := hB.ext hx1
  have x0 := (hB1.cell 0).trans rfl
  have x1 := (hB1.cell 1).trans rfl
  have x2 := (hB1.cell 2).trans rfl
  go_wp2_with fail
  refine (HA.out _ (slN ((hx.ext hx0).ext hx1))).mono ?_
  rintro e W2 ⟨rfl, hx2⟩
  rw [HS.out]
  have hB2 := hB1.ext hx2
  have y0 := (hB2.cell 0).trans rfl
  have y1 := (hB2.cell 1).trans rfl
  have y2 := (hB2.cell 2).trans rfl
  have hown2 := (hown.ext hx2).trans hx0
  have hxx := (hx0.trans' hx1).trans' hx2
  cases is
  · go_wp2_with fail
    have hn := Blk.new W2 56 (secells s (.slice A2 s.done.length c2)).toArray
    have hxn : Ext W2 (W2.alloc (.cells (secells s (.slice A2 s.done.length c2)).toArray 56)) := (Ext.rfl' W2).alloc' _
    have he : swith l s = l.take i ++ s :: l.drop i := by unfold swith; rw [HS.out]; rfl
    refine (insXSe_b X w _ (fun k hk => Nat.lt_of_lt_of_le (hX k hk) (hxx.trans' hxn).size) (.slice Am l.length cm) l i W2.heap.size s (by omega) hil (hown2.ext hxn) (hxx.trans' hxn) (secells s (.slice A2 s.done.length c2)) hn (fun k hk h => by have := (hown2.lt k hk).2; omega) (fun h => by have := hX _ h; have := hxx.size; omega) (seE.ext (seE.mono hs fun k hk hy => hy.elim id fun h => by have := (hown2.lt k h).1; omega) (hxx.trans' hxn))).mono ?_
    rintro e W4 ⟨m, A4, c4, hm4, rfl, hown4, hx4⟩
    go_wp2
    go_ret
    rw [he]
    exact ⟨m, A4, c4, hm4, rfl, hown4, hx4⟩
  · have hi := hit rfl
    obtain ⟨g, cq, cur, css, hv, hg, hb, hc, hcm, hs0, ht, he, hXg⟩ := hown2.open_ (by omega)
    simp only [Value.slice.injEq, true_and] at hv
    obtain ⟨rfl, rfl⟩ := hv
    obtain ⟨u0, u1, u2, z0, z1, z2, f0, f1, f2⟩ := Blk.has3 (cur := cur) (T := 56) hg (i * 3) (by rw [hs0]; show _ ≤ cm * 3; omega)
    unfold maxLen at hcm
    clear ht hs0
    go_wp2
    go_ret
    have hcg : Chg [g] W2 (((W2.setCell ⟨g, i * 3, none⟩ (.int .i64 s.client)).setCell ⟨g, i * 3 + 1, none⟩ (.int .u64 s.high)).setCell ⟨g, i * 3 + 2, none⟩ (.slice A2 s.done.length c2)) := (Chg.refl _ _).st3 (g := g) (by simp) _ _ _ _
    have hp := hown2.put hi (a := s) (cs := secells s (.slice A2 s.done.length c2)) (seE.ext (seE.mono hs fun k hk hy => hy.elim id fun h => by subst h; omega) hxx) hcg fun cur hcur ho => put3_cells hcur ho
    have he : swith l s = l.set i s := by unfold swith; rw [HS.out]; rfl
    rw [he]
    exact ⟨_, some ⟨g, 0, none⟩, cm, hide rfl, by rw [List.length_set]; rfl, by rw [List.length_set]; exact hp, hxx.then_ hcg (by simpa using hb)⟩
end Go.Proofs.YtamimdlaclglkaaGreat
