/- A part of the proof of 'StateBytes'. -/
import Derived.Test.YtamimdlaclglkaaGreatB16
import Derived.Lib.Bytealg
import Derived.Test.YtamimdlaclglkaaGreatB9
namespace Go.Proofs.YtamimdlaclglkaaGreat
set_option linter.unusedVariables false
set_option linter.unusedSimpArgs false
set_option linter.unnecessarySimpa false
set_option maxRecDepth 100000
open Go.RowKit
theorem cmpB_spec : ∀ a b : Bytes, (Lib.compareBytes a b < 0 ↔ Op.bytesLess a b = true) ∧ (Lib.compareBytes a b = 0 ↔ a = b)
  | [], [] => by simp [Lib.compareBytes, Op.bytesLess]
  | [], _ :: _ => by simp [Lib.compareBytes, Op.bytesLess]
  | _ :: _, [] => by simp [Lib.compareBytes, Op.bytesLess]
  | a :: x, b :: y => by
    have ih := cmpB_spec x y
    unfold Lib.compareBytes Op.bytesLess
    rcases Nat.lt_trichotomy a.toNat b.toNat with h | h | h
    · have h1 : a < b := UInt8.lt_iff_toNat_lt.2 h
      have h2 : a ≠ b := fun e => by rw [e] at h; omega
      simp [h1, h2]
    · have h1 : a = b := UInt8.toNat_inj.1 h
      subst h1
      have h2 : ¬ a < a := fun e => by have := UInt8.lt_iff_toNat_lt.1 e; omega
      simp [h2, ih]
    · have h1 : ¬ a < b := fun e => by have := UInt8.lt_iff_toNat_lt.1 e; omega
      have h2 : b < a := UInt8.lt_iff_toNat_lt.2 h
      have h3 : a ≠ b := fun e => by rw [e] at h; omega
      simp [h1, h2, h3]
theorem cmpStr_b (a b : Bytes) (w : World) : Calls Tryz.prog 131 #[str a, str b] w fun e w' => e = .returned (.int .i64 (Lib.compareBytes a b)) ∧ w' = w := by
  have h0 : Calls Tryz.prog 137 #[str a, str b] w fun e w' => e = .returned (.int .i64 (Lib.compareBytes a b)) ∧ w' = w := by
    go_enter Tryz.func137, Tryz.ntmps137
    go_wp2
    rw [run_callFunc_extern Tryz.func141 (by kernel_rfl) (by kernel_rfl) (by kernel_rfl) (e := Extern.BytealgCompare.compare) (by kernel_rfl), Lib.run_compareString]
    simp only [Result.andThen]
    rw [Oper.upon_value]
    go_wp2
    go_ret
    exact ⟨rfl, rfl⟩
  have H0 := hide h0
  clear h0
  go_enter Tryz.func131, Tryz.ntmps131
  go_wp2_with (go_at_call 137; refine H0.out.mono ?_; rintro e w' ⟨rfl, rfl⟩)
  go_ret
  exact ⟨rfl, rfl⟩
theorem cmpLn_b (s : Ln) (c : Bytes) (w : World) :
    Calls Tryz.prog 130 #[.agg #[str s.name, str s.url, .int .u64 s.till, .bool s.made], str c] w fun e w' => RetCmp (Op.bytesLess s.name c) (decide (s.name = c)) w w' e := by
  have H0 := hide (fun W => cmpStr_b s.name c W)
  have hc := cmpB_spec s.name c
  go_enter Tryz.func130, Tryz.ntmps130
  go_wp2_with (go_at_call 131; refine (H0.out _).mono ?_; rintro e w' ⟨rfl, rfl⟩)
  go_ret
  exact ⟨_, rfl, hide (by rw [decide_eq_true_eq]; exact hc), (Ext.rfl' w).alloc' _⟩
set_option maxHeartbeats 1600000 in
theorem searchLn_b (x : Value) (l : List Ln) (c : Bytes) (w : World) (hl : l.length ≤ 100000) (hx : Enc.Sl lnE w noneAt x l) (hc : c.length ≤ maxLen) (hm : Mono (fun s : Ln => Op.bytesLess s.name c) l) :
    Calls Tryz.prog 129 #[x, str c, .func (.func 130) #[] #[]] w fun e w' =>
      RetAt (cntP (fun s : Ln => Op.bytesLess s.name c) l) ((l[cntP (fun s : Ln => Op.bytesLess s.name c) l]?).any fun s => decide (s.name = c)) w w' e := by
  obtain ⟨A, cap, rfl, k1, k2⟩ := hx.form
  have HM := hide hm
  clear hm
  go_enter Tryz.func129, Tryz.ntmps129
  go_wp2
  go_loopw [9, 10] (fun i j wr => ∃ a b : Nat, a ≤ b ∧ b ≤ l.length ∧ i = .int .i64 a ∧ j = .int .i64 b ∧ Hid ((∀ m s, m < a → l[m]? = some s → Op.bytesLess s.name c = true) ∧ (∀ m s, b ≤ m → l[m]? = some s → Op.bytesLess s.name c = false)) ∧ Ext w wr) (fun i j _ => (intOf j - intOf i).toNat)
  case atStart => exact ⟨0, l.length, Nat.zero_le _, Nat.le_refl _, rfl, rfl, hide ⟨fun m s h => by omega, fun m s h hs => by rw [List.getElem?_eq_none h] at hs; cases hs⟩, Ext.rfl' w⟩
  case round =>
    obtain ⟨a, b, hab, hbl, rfl, rfl, hlo, hx1⟩ := hrel
    by_cases hlt : a < b
    · obtain ⟨h, hh⟩ : ∃ h : Nat, h = (a + b) / 2 := ⟨_, rfl⟩
      have hha : a ≤ h := by omega
      have hhb : h < b := by omega
      have hhe : ((a : Int) + b) / 2 = h := by omega
      clear hh
      obtain ⟨ad, s, rfl, hs, hbk, p0, p1, p2, p3, r1, r2, r3⟩ := ln_at (hx.ext hx1) (k := h) (by omega)
      go_wp2_with fail
      refine (cmpLn_b s c _).mono ?_
      rintro e w2 ⟨r, rfl, hr, hx2⟩
      by_cases hlt2 : Op.bytesLess s.name c = true
      · have hr2 : r < 0 := hr.out.1.2 hlt2
        go_wp2
        go_roundw
        case rel =>
          refine ⟨h + 1, b, by omega, hbl, by go_num, rfl, hide ⟨fun m t hm ht => ?_, hlo.out.2⟩, hx1.trans' hx2⟩
          exact HM.out m h t s (by omega) ht hs.out hlt2
        case measure => simp [intOf]; omega
      · have hr2 : ¬ r < 0 := fun h => hlt2 (hr.out.1.1 h)
        go_wp2
        go_roundw
        case rel =>
          refine ⟨a, h, by omega, by omega, rfl, rfl, hide ⟨hlo.out.1, fun m t hm ht => ?_⟩, hx1.trans' hx2⟩
          rcases Bool.eq_false_or_eq_true (Op.bytesLess t.name c) with h1 | h1
          · exact absurd (HM.out h m s t hm hs.out ht h1) hlt2
          · exact h1
        case measure => simp [intOf]; omega
    · obtain rfl : a = b := by omega
      have hcn : cntP (fun s : Ln => Op.bytesLess s.name c) l = a := cntP_at _ l a hbl hlo.out.1 hlo.out.2
      have HC := hide hcn
      clear hcn
      by_cases hal : a < l.length
      · obtain ⟨ad, s, rfl, hs, hbk, p0, p1, p2, p3, r1, r2, r3⟩ := ln_at (hx.ext hx1) (k := a) hal
        go_wp2_with fail
        refine (cmpLn_b s c _).mono ?_
        rintro e w2 ⟨r, rfl, hr, hx2⟩
        by_cases heq : decide (s.name = c) = true
        · have hr2 : r = 0 := hr.out.2.2 heq
          subst hr2
          go_wp2
          go_ret2
          refine ⟨?_, hx1.trans' hx2⟩
          rw [HC.out, hs.out]
          show Ending.returned (.tuple #[.int .i64 (a : Nat), .bool true]) = Ending.returned (.tuple #[.int .i64 (a : Nat), .bool (decide (s.name = c))])
          rw [show (decide (s.name = c)) = true from heq]
        · have hr2 : (r == 0) = false := by
            simp only [beq_eq_false_iff_ne, ne_eq]
            intro h; exact heq (hr.out.2.1 h)
          go_wp2
          go_ret2
          refine ⟨?_, hx1.trans' hx2⟩
          rw [HC.out, hs.out]
          show Ending.returned (.tuple #[.int .i64 (a : Nat), .bool false]) = Ending.returned (.tuple #[.int .i64 (a : Nat), .bool (decide (s.name = c))])
          rw [show (decide (s.name = c)) = false from Bool.eq_false_iff.2 heq]
      · have hln : l[a]? = none := List.getElem?_eq_none (by omega)
        have HL := hide hln
        clear hln
        go_wp2
        go_ret2
        refine ⟨?_, hx1⟩
        rw [HC.out, HL.out]
        rfl
end Go.Proofs.YtamimdlaclglkaaGreat
namespace Go.Proofs.YtamimdlaclglkaaGreat
set_option linter.unusedVariables false
set_option linter.unusedSimpArgs false
set_option linter.unnecessarySimpa false
set_option maxRecDepth 100000
open Go.RowKit
set_option maxHeartbeats 3200000 in
theorem insXLn_b (X : Avoid) (w0 w : World) (hXw : ∀ k, X k → k < w.heap.size) (x : Value) (l : List Ln) (i : Nat) (gv : Nat) (a : Ln) (hl : l.length ≤ 100000) (hi : i ≤ l.length) (hx : Own 53 lnE w0 w X x l) (hx0 : Ext w0 w)
    (cv : List Value) (hv : Blk w gv 53 cv.toArray) (hgv : ∀ k, x.ownBlock = some k → k ≠ gv) (hXv : ¬ X gv) (hr : lnE.rep w (fun k => X k ∨ x.ownBlock = some k) cv a) :
    Calls Tryz.prog 136 #[x, .int .i64 i, .slice (some ⟨gv, 0, none⟩) 1 1] w fun e w' => RetOwnX 53 lnE w0 w' X e (l.take i ++ a :: l.drop i) := by
  have hsz : (Tryz.prog.info? 53).map (·.size) = some 4 := by kernel_rfl
  obtain ⟨i0, hi0, hz0, hz1, hz2⟩ := info_parts elt_ln.info
  replace hz1 : i0.size = 4 := hz1
  have hw1 : IntKind.i64.wrap ((i : Int) + 1) = (i : Int) + 1 := IntWalk.i64_in _ (by omega)
  by_cases hin : i = l.length
  · subst hin
    have hh : ((l.length : Int) == (l.length : Int)) = true := by simp
    have hsY : Enc.Sl lnE w (fun k => X k ∨ x.ownBlock = some k) (.slice (some ⟨gv, 0, none⟩) 1 1) [a] := Sl.of_blk hv hr (fun h => h.elim hXv fun h => hgv gv h rfl)
    obtain ⟨v', w', hrun, h2, h3, h4, h5⟩ := run_own elt_ln 105 105 Tryz.underlying105 hx hx0 hsY (fun h => Nat.lt_irrefl _ (hXw _ h)) (by simp only [List.length_cons, List.length_nil]; omega) (by simp only [List.length_cons, List.length_nil]; omega)
    obtain ⟨A, cc, rfl, kk1, kk2⟩ := hx.form
    have hcut := fun W => run_sl_l (P := Tryz.prog) (A := A) (n := l.length) (c := cc) (lo := (l.length : Int)) (kl := .i64) Tryz.underlying105 hi0 hz1 l.length rfl (by omega) W
    have hfin : l.take l.length ++ a :: l.drop l.length = l ++ [a] := by simp
    rw [hfin]
    have HR := hide hrun
    clear hrun hfin
    go_enter Tryz.func136, Tryz.ntmps136
    go_wp2_with (at_builtin; refine wpList_append_run rfl _ _ _ rfl _ _ rfl rfl ((append_types 105 25 _ Tryz.underlying105 Tryz.underlying25 _ _ _ _ _ _ _).trans HR.out) ?_)
    go_ret
    exact RetOwnX.mk h2 h3
  · have hin' : (((i : Nat) : Int) == (l.length : Int)) = false := by simp; omega
    obtain ⟨g, cap, cur, css, rfl, hg, hb, hc, hm, hs, ht, he, hXg⟩ := hx.open_ (by omega)
    have hm' := hm
    unfold maxLen at hm'
    by_cases hcap : l.length + 1 ≤ cap
    · have hcap' : ¬ (cap : Int) < (l.length : Int) + 1 := by omega
      have hne : gv ≠ g := fun h => hgv g rfl h.symm
      have hov : ∀ la ca lb cb, (callFunc 139 #[.slice (some ⟨gv, 0, none⟩) la ca, .slice (cutA 4 (some ⟨g, 0, none⟩) cap (i + 1)) lb cb]).run Tryz.prog w = .ok (.value (.bool false)) w := fun la ca lb cb => by
        rw [cutA_own (by omega), run_callFunc_extern Tryz.func139 (by kernel_rfl) (by kernel_rfl) (by kernel_rfl) (e := Extern.SlicesOverlaps.overlaps #[25, 25] #[4]) (by kernel_rfl),
          over_no w 25 4 53 Tryz.underlying25 4 (fun w => by kernel_rfl) g gv _ _ _ _ cur hne hv hg (by rw [hs]; show 0 < cap * 4; omega)]
        rfl
      have hsl1 := fun W => run_sl_l (P := Tryz.prog) (A := some ⟨g, 0, none⟩) (n := l.length + 1) (c := cap) (lo := (i : Int) + 1) (kl := .i64) Tryz.underlying105 hi0 hz1 (i + 1) (by simp) (by omega) W
      have hsl2 := fun W => run_sl_l (P := Tryz.prog) (A := some ⟨g, 0, none⟩) (n := l.length + 1) (c := cap) (lo := (i : Int)) (kl := .i64) Tryz.underlying105 hi0 hz1 i rfl (by omega) W
      have hlen := flat_len css 4 he.lens
      have hcl : css.length = l.length := he.1
      have hdl := flat_len (css.drop i) 4 fun c hc => he.lens c (List.mem_of_mem_drop hc)
      rw [List.length_drop, hcl] at hdl
      have htt : cur.toList.take (css.length * 4) = css.flatten := by rw [hcl]; exact ht
      have hti : cur.toList.take (i * 4) = (css.take i).flatten := by
        rw [← flat_take css 4 i he.lens, ← htt, List.take_take, Nat.min_eq_left (Nat.mul_le_mul_right _ (by omega))]
      have hcs : cur.toList.length = cap * 4 := by rw [Array.length_toList]; exact hs
      obtain ⟨cur1, hcur1⟩ : ∃ c, c = cur.toList.take ((i + 1) * 4) ++ (css.drop i).flatten ++ cur.toList.drop ((i + 1) * 4 + (css.drop i).flatten.length) := ⟨_, rfl⟩
      have hce : cv.length = 4 := lnE.len hr
      obtain ⟨f1, f2, f3⟩ := ins_flat css 4 i cur.toList cv he.lens hce (by omega) (by rw [hcs, hcl]; exact Nat.mul_le_mul_right _ hcap) hti cur1 hcur1
      have hcell : ∀ j v, ((css.drop i).flatten)[j]? = some v → w.cell? ((⟨g, i * 4, none⟩ : Addr).add j) = some v := by
        intro j v hj
        rw [Addr.add_lit, cell_of_row w g _ cur _ _ hg, ← Array.getElem?_toList]
        rw [← flat_drop css 4 i he.lens, List.getElem?_drop, ← htt, List.getElem?_take] at hj
        split at hj
        · exact hj
        · cases hj
      have hcp1 : ∀ ty dc sc, (Builtin.copy_ #[105, 105] ty #[.slice (cutA 4 (some ⟨g, 0, none⟩) cap (i + 1)) (l.length + 1 - (i + 1)) dc, .slice (cutA 4 (some ⟨g, 0, none⟩) cap i) (l.length + 1 - i) sc]).run Tryz.prog w.drew = .ok (goInt ((l.length - i : Nat) : Int)) (w.drew.setRow g cur1.toArray) := by
        intro ty dc sc
        have hmin : Nat.min (l.length + 1 - i) (l.length + 1 - (i + 1)) = l.length - i := by simp only [Nat.min_def]; split <;> omega
        have h := run_copyK (P := Tryz.prog) (w := w.drew) 105 105 ty 53 g ((i + 1) * 4) (l.length + 1 - (i + 1)) dc ⟨g, i * 4, none⟩ (l.length + 1 - i) sc 4 cur 53 (css.drop i).flatten Tryz.underlying105 hsz hg (by rw [hmin, hdl]) (fun j v hj => hcell j v hj)
          (by rw [hs, hdl]; show _ ≤ cap * 4; omega) (by intro v hv'; exact he.one v (by rw [← List.take_append_drop i css, List.flatten_append]; exact List.mem_append_right _ hv'))
        rw [hmin] at h
        rw [cutA_own (by omega), cutA_own (by omega), hcur1]
        exact h
      have hB1 : (w.drew.setRow g cur1.toArray).heap[g]? = some (.cells cur1.toArray 53 (0, 0)) := setRow_heap w.drew g cur _ _ _ hg
      have hv1 : Blk (w.drew.setRow g cur1.toArray) gv 53 cv.toArray := Blk.chg (w := w.drew) hv (setRow_chg _) (by simpa using hne)
      have hcp2 : ∀ ty dc, (Builtin.copy_ #[105, 25] ty #[.slice (cutA 4 (some ⟨g, 0, none⟩) cap i) (l.length + 1 - i) dc, .slice (some ⟨gv, 0, none⟩) 1 1]).run Tryz.prog (w.drew.setRow g cur1.toArray) = .ok (goInt 1) ((w.drew.setRow g cur1.toArray).setRow g (cur1.take (i * 4) ++ cv ++ cur1.drop (i * 4 + cv.length)).toArray) := by
        intro ty dc
        have hmin : Nat.min 1 (l.length + 1 - i) = 1 := by simp only [Nat.min_def]; split <;> omega
        have h := run_copyK (P := Tryz.prog) (w := w.drew.setRow g cur1.toArray) 105 25 ty 53 g (i * 4) (l.length + 1 - i) dc ⟨gv, 0, none⟩ 1 1 4 cur1.toArray 53 cv Tryz.underlying105 hsz hB1 (by rw [hmin, hce]) (fun j v hj => by
            rw [Addr.add_lit, Nat.zero_add, hv1.cell]; simpa using hj)
          (by simp only [List.size_toArray, f1, hcs, hce]; omega) (fun v hv' => lnE.one hr v hv')
        rw [hmin] at h
        rw [cutA_own (by omega)]
        exact h
      have hOwn : ∀ W', W' = (w.drew.setRow g cur1.toArray).setRow g (cur1.take (i * 4) ++ cv ++ cur1.drop (i * 4 + cv.length)).toArray → RetOwnX 53 lnE w0 W' X (.returned (.slice (some ⟨g, 0, none⟩) (l.length + 1) cap)) (l.take i ++ a :: l.drop i) := by
        rintro W' rfl
        have hcg : Chg [g] w ((w.drew.setRow g cur1.toArray).setRow g (cur1.take (i * 4) ++ cv ++ cur1.drop (i * 4 + cv.length)).toArray) := (((Chg.refl [g] w).drew).trans (setRow_chg _)).trans (setRow_chg _)
        have hl' : (l.take i ++ a :: l.drop i).length = l.length + 1 := by simp; omega
        refine ⟨_, some ⟨g, 0, none⟩, cap, hide rfl, by rw [hl'], Own.mk (cur1.take (i * 4) ++ cv ++ cur1.drop (i * 4 + cv.length)).toArray (css.take i ++ cv :: css.drop i) (setRow_heap _ g _ _ _ _ hB1) hb (by rw [hl']; exact hcap) hm (by simp only [List.size_toArray]; rw [f3, hcs]; rfl) ?_ ?_ hXg, hx0.then_ hcg (by simpa using hb)⟩
        · rw [hl']; rw [← hcl]; exact f2
        · refine Enc.Each.chg (w := w) (S := [g]) (Enc.Each.app (he.take i) (Enc.Each.app (css := [cv]) (l := [a]) (Enc.Each.single (lnE.mono hr fun k _ hk => ?_)) (he.drop i))) hcg (fun k hk _ => .inr (by simpa using hk))
          rcases hk with hk | rfl
          · exact .inl hk
          · exact .inr rfl
      have HO := hide hOwn
      have H1 := hide hcp1
      have H2 := hide hcp2
      clear hOwn hcp1 hcp2 hcur1 hlen hcl hdl htt hti hcs hce f1 f2 f3 hcell hB1 hv1 hs ht
      go_enter Tryz.func136, Tryz.ntmps136
      go_wp2_with (simp only [hov])
      refine Rg.regionT Tryz.checked.mixed 95 8 (by kernel_rfl) [
        (fun x_ _ => x_ = .slice (some ⟨g, 0, none⟩) (l.length + 1) cap),
        (fun x_ _ => x_ = .int .i64 i),
        (fun x_ _ => x_ = .int .i64 1),
        (fun x_ _ => x_ = .int .i64 ((i : Int) + 1)),
        (fun x_ _ => x_ = .slice (cutA 4 (some ⟨g, 0, none⟩) cap (i + 1)) (l.length + 1 - (i + 1)) (cap - (i + 1))),
        (fun x_ _ => x_ = .slice (some ⟨g, 0, none⟩) (l.length + 1) cap),
        (fun x_ _ => x_ = .int .i64 i),
        (fun x_ _ => x_ = .slice (cutA 4 (some ⟨g, 0, none⟩) cap i) (l.length + 1 - i) (cap - i))] (fun W => W = w.drew) (fun a b => a = b) rfl rfl rfl
        ?st rfl ?ob ?en
      case st => exact ⟨fun _ _ _ h _ => h, fun _ _ _ h _ => h, fun _ _ _ h _ => h, fun _ _ _ h _ => h, fun _ _ _ h _ => h, fun _ _ _ h _ => h, fun _ _ _ h _ => h, fun _ _ _ h _ => h, trivial⟩
      case ob =>
        refine ⟨Rg.at_run [0] rfl ?_, ?_⟩
        · intro ρ W hR ⟨q0, _⟩
          replace q0 : ρ 0 = .slice (some ⟨g, 0, none⟩) (l.length + 1) cap := q0
          refine ⟨rfl, ?_⟩
          exact Rg.run_ok (v := .slice (some ⟨g, 0, none⟩) (l.length + 1) cap) (by simp [execOp, Rg.ev, go_sem, q0]) ⟨rfl, hR, rfl⟩
        refine ⟨Rg.at_run [1] rfl ?_, ?_⟩
        · intro ρ W hR ⟨q1, _⟩
          replace q1 : ρ 1 = .int .i64 i := q1
          refine ⟨rfl, ?_⟩
          exact Rg.run_ok (v := .int .i64 i) (by simp [execOp, Rg.ev, go_sem, q1]) ⟨rfl, hR, rfl⟩
        refine ⟨Rg.at_run [7] rfl ?_, ?_⟩
        · intro ρ W hR ⟨q7, _⟩
          replace q7 : ρ 7 = .int .i64 1 := q7
          refine ⟨rfl, ?_⟩
          exact Rg.run_ok (v := .int .i64 1) (by simp [execOp, Rg.ev, go_sem, q7]) ⟨rfl, hR, rfl⟩
        refine ⟨Rg.at_run [70, 71] rfl ?_, ?_⟩
        · intro ρ W hR ⟨q70, q71, _⟩
          replace q70 : ρ 70 = .int .i64 i := q70
          replace q71 : ρ 71 = .int .i64 1 := q71
          refine ⟨rfl, ?_⟩
          exact Rg.run_ok (v := .int .i64 ((i : Int) + 1)) (by simp [execOp, Rg.ev, go_sem, q70, q71, hw1]) ⟨rfl, hR, rfl⟩
        refine ⟨Rg.at_run [69, 72] rfl ?_, ?_⟩
        · intro ρ W hR ⟨q69, q72, _⟩
          replace q69 : ρ 69 = .slice (some ⟨g, 0, none⟩) (l.length + 1) cap := q69
          replace q72 : ρ 72 = .int .i64 ((i : Int) + 1) := q72
          refine ⟨rfl, ?_⟩
          exact Rg.run_ok (v := .slice (cutA 4 (some ⟨g, 0, none⟩) cap (i + 1)) (l.length + 1 - (i + 1)) (cap - (i + 1))) (by simp [execOp, Rg.ev, go_sem, q69, q72, hsl1]) ⟨rfl, hR, rfl⟩
        refine ⟨Rg.at_run [0] rfl ?_, ?_⟩
        · intro ρ W hR ⟨q0, _⟩
          replace q0 : ρ 0 = .slice (some ⟨g, 0, none⟩) (l.length + 1) cap := q0
          refine ⟨rfl, ?_⟩
          exact Rg.run_ok (v := .slice (some ⟨g, 0, none⟩) (l.length + 1) cap) (by simp [execOp, Rg.ev, go_sem, q0]) ⟨rfl, hR, rfl⟩
        refine ⟨Rg.at_run [1] rfl ?_, ?_⟩
        · intro ρ W hR ⟨q1, _⟩
          replace q1 : ρ 1 = .int .i64 i := q1
          refine ⟨rfl, ?_⟩
          exact Rg.run_ok (v := .int .i64 i) (by simp [execOp, Rg.ev, go_sem, q1]) ⟨rfl, hR, rfl⟩
        refine ⟨Rg.at_run [74, 75] rfl ?_, ?_⟩
        · intro ρ W hR ⟨q74, q75, _⟩
          replace q74 : ρ 74 = .slice (some ⟨g, 0, none⟩) (l.length + 1) cap := q74
          replace q75 : ρ 75 = .int .i64 i := q75
          refine ⟨rfl, ?_⟩
          exact Rg.run_ok (v := .slice (cutA 4 (some ⟨g, 0, none⟩) cap i) (l.length + 1 - i) (cap - i)) (by simp [execOp, Rg.ev, go_sem, q74, q75, hsl2]) ⟨rfl, hR, rfl⟩
        trivial
      case en =>
        intro tm W hR hsz hk
        rw [Rg.fin_eq (ds := [69, 70, 71, 72, 73, 74, 75, 76]) rfl rfl rfl hsz hk]
        have k69 : tm.getD 69 undef = .slice (some ⟨g, 0, none⟩) (l.length + 1) cap := hk 69
        have k70 : tm.getD 70 undef = .int .i64 i := hk 70
        have k71 : tm.getD 71 undef = .int .i64 1 := hk 71
        have k72 : tm.getD 72 undef = .int .i64 ((i : Int) + 1) := hk 72
        have k73 : tm.getD 73 undef = .slice (cutA 4 (some ⟨g, 0, none⟩) cap (i + 1)) (l.length + 1 - (i + 1)) (cap - (i + 1)) := hk 73
        have k74 : tm.getD 74 undef = .slice (some ⟨g, 0, none⟩) (l.length + 1) cap := hk 74
        have k75 : tm.getD 75 undef = .int .i64 i := hk 75
        have k76 : tm.getD 76 undef = .slice (cutA 4 (some ⟨g, 0, none⟩) cap i) (l.length + 1 - i) (cap - i) := hk 76
        clear hk hsz
        simp only [Rg.putAll, List.setIfInBounds_toArray, List.set_cons_zero, List.set_cons_succ, k69, k70, k71, k72, k73, k74, k75, k76]
        clear k69
        clear k70
        clear k71
        clear k72
        clear k73
        clear k74
        clear k75
        clear k76
        subst hR
        refine wpList_copy_run rfl _ _ _ rfl _ _ rfl rfl (H1.out _ _ _) ?_
        go_wp2_with (with_reducible show wpList _ _ _ (Oper.mk (some 82) _ _ _ _ _ :: _) _ _; refine wpList_copy_run rfl _ _ _ rfl _ _ rfl rfl (H2.out _ _) ?_)
        go_ret
        exact HO.out _ (by simp only [List.append_assoc])
    · have hcap' : (cap : Int) < (l.length : Int) + 1 := by omega
      have hcc : cap = l.length := by omega
      have hcl : css.length = l.length := he.1
      have hdl := flat_len (css.drop i) 4 fun c hc => he.lens c (List.mem_of_mem_drop hc)
      have htl := flat_len (css.take i) 4 fun c hc => he.lens c (List.mem_of_mem_take hc)
      rw [List.length_drop, hcl] at hdl
      rw [List.length_take, hcl, Nat.min_eq_left hi] at htl
      have htt : cur.toList.take (css.length * 4) = css.flatten := by rw [hcl]; exact ht
      have hti : cur.toList.take (i * 4) = (css.take i).flatten := by
        rw [← flat_take css 4 i he.lens, ← htt, List.take_take, Nat.min_eq_left (Nat.mul_le_mul_right _ (by omega))]
      have hcell : ∀ W : World, W.heap[g]? = some (.cells cur 53 (0, 0)) → ∀ m j v, (css.flatten.drop m)[j]? = some v → W.cell? ((⟨g, m, none⟩ : Addr).add j) = some v := by
        intro W hW m j v hj
        rw [Addr.add_lit, cell_of_row W g _ cur _ _ hW, ← Array.getElem?_toList]
        rw [List.getElem?_drop, ← htt, List.getElem?_take] at hj
        split at hj
        · exact hj
        · cases hj
      obtain ⟨G, hG⟩ : ∃ G, G = grownCap w (l.length + 1) cap 53 := ⟨_, rfl⟩
      have hGn : l.length + 1 ≤ G := by rw [hG]; exact grownCap_ge w _ _ _
      have hGm : G ≤ maxLen := by rw [hG]; exact grownCap_le_maxLen w _ _ _ (by simp [maxLen]; omega)
      have hkk : (l.length : Int) + 1 - (i : Int) = ((l.length + 1 - i : Nat) : Int) := by omega
      have hik : i + (l.length + 1 - i) = l.length + 1 := by omega
      have hold : (Builtin.firstCells i0.size i (.slice (some ⟨g, 0, none⟩) i cap)).run Tryz.prog w.drew = .ok (css.take i).flatten.toArray w.drew := by
        rw [hz1]
        exact run_firstCells_some w.drew 4 i ⟨g, 0, none⟩ i cap (css.take i).flatten htl (fun j v hj => by
          refine hcell w.drew hg 0 j v ?_
          rw [List.drop_zero]
          rw [← flat_take css 4 i he.lens, List.getElem?_take] at hj
          split at hj
          · exact hj
          · cases hj)
      obtain ⟨ROW, hROW⟩ : ∃ ROW : Array Value, ROW = (css.take i).flatten.toArray ++ Builtin.zeroCells (Value.cells (.agg #[.string ByteArray.empty, .string ByteArray.empty, .int .u64 0, .bool false])) (l.length + 1 - i) ++ Builtin.zeroCells (Value.cells (.agg #[.string ByteArray.empty, .string ByteArray.empty, .int .u64 0, .bool false])) (G - (l.length + 1)) := ⟨_, rfl⟩
      have hrz : ∀ ty, (Builtin.append_ #[105, 3] ty #[.slice (some ⟨g, 0, none⟩) i cap, .int .i64 ((l.length : Int) + 1 - (i : Int))]).run Tryz.prog w = .ok (.slice (some ⟨w.heap.size, 0, none⟩) (l.length + 1) G) (w.drew.alloc (.cells ROW 53)) := fun ty => by
        have h := Lib.run_append_grow_zeros (P := Tryz.prog) w 105 3 ty 53 i0 _ .i64 .i64 Tryz.underlying105 Tryz.underlying3 hi0 hz0 (some ⟨g, 0, none⟩) i cap (css.take i).flatten hold (l.length + 1 - i) (by omega) (by omega) (by omega) (by omega) (by rw [hz2]; omega) (by rw [hz2, hik]; exact growslice_fits (by omega) (by omega))
        rw [hik, ← hG, ← hROW] at h
        rw [hkk]
        exact h
      have hRl : ROW.toList.length = G * 4 := by
        rw [hROW]
        simp only [Array.toList_append, List.length_append, Array.length_toList, htl]
        rw [size_zeroCells, size_zeroCells]
        simp [Value.cells, htl]
        omega
      have hRt : ROW.toList.take (i * 4) = (css.take i).flatten := by
        rw [hROW, Array.toList_append, Array.toList_append, List.append_assoc]
        rw [List.take_append_of_le_length (by simp [htl])]
        exact List.take_of_length_le (by simp [htl])
      have hce : cv.length = 4 := lnE.len hr
      obtain ⟨cur1, hcur1⟩ : ∃ c, c = ROW.toList.take (i * 4) ++ cv ++ ROW.toList.drop (i * 4 + cv.length) := ⟨_, rfl⟩
      obtain ⟨f1, f2, f3⟩ := ins_flat2 css 4 i ROW.toList cv he.lens hce (by omega) (by rw [hRl, hcl]; exact Nat.mul_le_mul_right _ hGn) hRt cur1 hcur1
      have hgw : g < w.heap.size := Blk.lt (cs := cur) (t := 53) hg
      have hgvw : gv < w.heap.size := hv.lt
      have hB0 : (w.drew.alloc (.cells ROW 53)).heap[w.heap.size]? = some (.cells ROW 53 (0, 0)) := heap_alloc_new w.drew _
      have hv1 : Blk (w.drew.alloc (.cells ROW 53)) gv 53 cv.toArray := Blk.alloc (w := w.drew) hv _
      have hg1 : (w.drew.alloc (.cells ROW 53)).heap[g]? = some (.cells cur 53 (0, 0)) := Blk.alloc (w := w.drew) (cs := cur) (t := 53) hg _
      obtain ⟨wa, hwa⟩ : ∃ wa, wa = w.drew.alloc (.cells ROW 53) := ⟨_, rfl⟩
      rw [← hwa] at hrz hB0 hv1 hg1
      have hcpA : ∀ ty dc, (Builtin.copy_ #[105, 25] ty #[.slice (cutA 4 (some ⟨w.heap.size, 0, none⟩) G i) (l.length + 1 - i) dc, .slice (some ⟨gv, 0, none⟩) 1 1]).run Tryz.prog wa = .ok (goInt 1) (wa.setRow w.heap.size cur1.toArray) := by
        intro ty dc
        have hmin : Nat.min 1 (l.length + 1 - i) = 1 := by simp only [Nat.min_def]; split <;> omega
        have h := run_copyK (P := Tryz.prog) (w := wa) 105 25 ty 53 w.heap.size (i * 4) (l.length + 1 - i) dc ⟨gv, 0, none⟩ 1 1 4 ROW 53 cv Tryz.underlying105 hsz hB0 (by rw [hmin, hce]) (fun j v hj => by
            rw [Addr.add_lit, Nat.zero_add, hv1.cell]; simpa using hj)
          (by rw [← Array.length_toList, hRl, hce]; omega) (fun v hv' => lnE.one hr v hv')
        rw [hmin] at h
        rw [cutA_own (by omega), hcur1]
        exact h
      have hB1 : (wa.setRow w.heap.size cur1.toArray).heap[w.heap.size]? = some (.cells cur1.toArray 53 (0, 0)) := setRow_heap wa _ _ _ _ _ hB0
      have hg2 : (wa.setRow w.heap.size cur1.toArray).heap[g]? = some (.cells cur 53 (0, 0)) := (setRow_other _ _ _ _ (by omega)).trans hg1
      have hcpB : ∀ ty dc sc, (Builtin.copy_ #[105, 105] ty #[.slice (cutA 4 (some ⟨w.heap.size, 0, none⟩) G (i + 1)) (l.length + 1 - (i + 1)) dc, .slice (cutA 4 (some ⟨g, 0, none⟩) cap i) (l.length - i) sc]).run Tryz.prog (wa.setRow w.heap.size cur1.toArray).drew = .ok (goInt ((l.length - i : Nat) : Int)) ((wa.setRow w.heap.size cur1.toArray).drew.setRow w.heap.size (cur1.take ((i + 1) * 4) ++ (css.drop i).flatten ++ cur1.drop ((i + 1) * 4 + (css.drop i).flatten.length)).toArray) := by
        intro ty dc sc
        have hmin : Nat.min (l.length - i) (l.length + 1 - (i + 1)) = l.length - i := by simp only [Nat.min_def]; split <;> omega
        have h := run_copyK (P := Tryz.prog) (w := (wa.setRow w.heap.size cur1.toArray).drew) 105 105 ty 53 w.heap.size ((i + 1) * 4) (l.length + 1 - (i + 1)) dc ⟨g, i * 4, none⟩ (l.length - i) sc 4 cur1.toArray 53 (css.drop i).flatten Tryz.underlying105 hsz hB1 (by rw [hmin, hdl])
          (fun j v hj => hcell (wa.setRow w.heap.size cur1.toArray).drew hg2 _ j v (by rw [flat_drop css 4 i he.lens]; exact hj))
          (by simp only [List.size_toArray, f1, hRl, hdl]; omega) (by intro v hv'; exact he.one v (by rw [← List.take_append_drop i css, List.flatten_append]; exact List.mem_append_right _ hv'))
        rw [hmin] at h
        rw [cutA_own (by omega), cutA_own (by omega)]
        exact h
      have hOwn : ∀ W', W' = (wa.setRow w.heap.size cur1.toArray).drew.setRow w.heap.size (cur1.take ((i + 1) * 4) ++ (css.drop i).flatten ++ cur1.drop ((i + 1) * 4 + (css.drop i).flatten.length)).toArray → RetOwnX 53 lnE w0 W' X (.returned (.slice (some ⟨w.heap.size, 0, none⟩) (l.length + 1) G)) (l.take i ++ a :: l.drop i) := by
        rintro W' rfl
        have hcg0 : Chg [w.heap.size] w wa := by rw [hwa]; exact ((Chg.refl _ w).drew).alloc _
        have hcg : Chg [w.heap.size] w ((wa.setRow w.heap.size cur1.toArray).drew.setRow w.heap.size (cur1.take ((i + 1) * 4) ++ (css.drop i).flatten ++ cur1.drop ((i + 1) * 4 + (css.drop i).flatten.length)).toArray) := ((hcg0.trans (setRow_chg _)).drew).trans (setRow_chg _)
        have hl' : (l.take i ++ a :: l.drop i).length = l.length + 1 := by simp; omega
        refine ⟨_, some ⟨w.heap.size, 0, none⟩, G, hide rfl, by rw [hl'], Own.mk (cur1.take ((i + 1) * 4) ++ (css.drop i).flatten ++ cur1.drop ((i + 1) * 4 + (css.drop i).flatten.length)).toArray (css.take i ++ cv :: css.drop i) (setRow_heap _ _ _ _ _ _ hB1) hx0.size (by rw [hl']; exact hGn) hGm (by simp only [List.size_toArray]; rw [f3, hRl]; rfl) ?_ ?_ (fun h => Nat.lt_irrefl _ (hXw _ h)), hx0.then_ hcg (by simpa using hx0.size)⟩
        · rw [hl']; rw [← hcl]; exact f2
        · have h0 : Enc.Each lnE w (fun k => X k ∨ k = g) (css.take i ++ cv :: css.drop i) (l.take i ++ a :: l.drop i) := Enc.Each.app (he.take i) (Enc.Each.app (css := [cv]) (l := [a]) (Enc.Each.single (lnE.mono hr fun k _ hk => by
            rcases hk with hk | rfl
            · exact .inl hk
            · exact .inr rfl)) (he.drop i))
          exact Enc.Each.chg (S := [w.heap.size]) (h0.mono (Y := fun k => X k ∨ k = w.heap.size) fun k hk hy => hy.elim .inl fun h => absurd h (by omega)) hcg (fun k hk hlt => by simp at hk; omega)
      have HO := hide hOwn
      have HZ := hide hrz
      have HA := hide hcpA
      have HB := hide hcpB
      clear hcc hOwn hrz hcpA hcpB hcur1 hcl hdl htl htt hti hce f1 f2 f3 hcell hB1 hv1 hs ht hG hkk hik hold hROW hRl hRt hB0 hg1 hg2 hwa
      have hsl3 := fun W => run_sl_h (P := Tryz.prog) (A := some ⟨g, 0, none⟩) (n := l.length) (c := cap) (hi := (i : Int)) (kh := .i64) Tryz.underlying105 hi0 hz1 i rfl (by omega) W
      go_enter Tryz.func136, Tryz.ntmps136
      go_wp2_with (first | (at_builtin; refine wpList_append_run rfl _ _ _ rfl _ _ rfl rfl (HZ.out _) ?_) | (with_reducible show wpList _ _ _ (Oper.mk (some 45) _ _ _ _ _ :: _) _ _; refine wpList_copy_run rfl _ _ _ rfl _ _ rfl rfl (HA.out _ _) ?_))
      simp only [Act.put, List.setIfInBounds_toArray, List.set_cons_zero, List.set_cons_succ]
      refine Rg.regionT Tryz.checked.mixed 95 8 (by kernel_rfl) [
        (fun x_ _ => x_ = .slice (some ⟨w.heap.size, 0, none⟩) (l.length + 1) G),
        (fun x_ _ => x_ = .int .i64 i),
        (fun x_ _ => x_ = .int .i64 1),
        (fun x_ _ => x_ = .int .i64 ((i : Int) + 1)),
        (fun x_ _ => x_ = .slice (cutA 4 (some ⟨w.heap.size, 0, none⟩) G (i + 1)) (l.length + 1 - (i + 1)) (G - (i + 1))),
        (fun x_ _ => x_ = .slice (some ⟨g, 0, none⟩) l.length cap),
        (fun x_ _ => x_ = .int .i64 i),
        (fun x_ _ => x_ = .slice (cutA 4 (some ⟨g, 0, none⟩) cap i) (l.length - i) (cap - i))] (fun W => W = (wa.setRow w.heap.size cur1.toArray).drew) (fun a b => a = b) rfl rfl rfl
        ?st rfl ?ob ?en
      case st => exact ⟨fun _ _ _ h _ => h, fun _ _ _ h _ => h, fun _ _ _ h _ => h, fun _ _ _ h _ => h, fun _ _ _ h _ => h, fun _ _ _ h _ => h, fun _ _ _ h _ => h, fun _ _ _ h _ => h, trivial⟩
      case ob =>
        refine ⟨Rg.at_run [9] rfl ?_, ?_⟩
        · intro ρ W hR ⟨q9, _⟩
          replace q9 : ρ 9 = .slice (some ⟨w.heap.size, 0, none⟩) (l.length + 1) G := q9
          refine ⟨rfl, ?_⟩
          exact Rg.run_ok (v := .slice (some ⟨w.heap.size, 0, none⟩) (l.length + 1) G) (by simp [execOp, Rg.ev, go_sem, q9]) ⟨rfl, hR, rfl⟩
        refine ⟨Rg.at_run [1] rfl ?_, ?_⟩
        · intro ρ W hR ⟨q1, _⟩
          replace q1 : ρ 1 = .int .i64 i := q1
          refine ⟨rfl, ?_⟩
          exact Rg.run_ok (v := .int .i64 i) (by simp [execOp, Rg.ev, go_sem, q1]) ⟨rfl, hR, rfl⟩
        refine ⟨Rg.at_run [7] rfl ?_, ?_⟩
        · intro ρ W hR ⟨q7, _⟩
          replace q7 : ρ 7 = .int .i64 1 := q7
          refine ⟨rfl, ?_⟩
          exact Rg.run_ok (v := .int .i64 1) (by simp [execOp, Rg.ev, go_sem, q7]) ⟨rfl, hR, rfl⟩
        refine ⟨Rg.at_run [47, 48] rfl ?_, ?_⟩
        · intro ρ W hR ⟨q47, q48, _⟩
          replace q47 : ρ 47 = .int .i64 i := q47
          replace q48 : ρ 48 = .int .i64 1 := q48
          refine ⟨rfl, ?_⟩
          exact Rg.run_ok (v := .int .i64 ((i : Int) + 1)) (by simp [execOp, Rg.ev, go_sem, q47, q48, hw1]) ⟨rfl, hR, rfl⟩
        refine ⟨Rg.at_run [46, 49] rfl ?_, ?_⟩
        · intro ρ W hR ⟨q46, q49, _⟩
          replace q46 : ρ 46 = .slice (some ⟨w.heap.size, 0, none⟩) (l.length + 1) G := q46
          replace q49 : ρ 49 = .int .i64 ((i : Int) + 1) := q49
          refine ⟨rfl, ?_⟩
          have hs5 := run_sl_l (P := Tryz.prog) (A := some ⟨w.heap.size, 0, none⟩) (n := l.length + 1) (c := G) (lo := (i : Int) + 1) (kl := .i64) Tryz.underlying105 hi0 hz1 (i + 1) (by simp) (by omega) W
          exact Rg.run_ok (v := .slice (cutA 4 (some ⟨w.heap.size, 0, none⟩) G (i + 1)) (l.length + 1 - (i + 1)) (G - (i + 1))) (by simp [execOp, Rg.ev, go_sem, q46, q49, hs5]) ⟨rfl, hR, rfl⟩
        refine ⟨Rg.at_run [0] rfl ?_, ?_⟩
        · intro ρ W hR ⟨q0, _⟩
          replace q0 : ρ 0 = .slice (some ⟨g, 0, none⟩) l.length cap := q0
          refine ⟨rfl, ?_⟩
          exact Rg.run_ok (v := .slice (some ⟨g, 0, none⟩) l.length cap) (by simp [execOp, Rg.ev, go_sem, q0]) ⟨rfl, hR, rfl⟩
        refine ⟨Rg.at_run [1] rfl ?_, ?_⟩
        · intro ρ W hR ⟨q1, _⟩
          replace q1 : ρ 1 = .int .i64 i := q1
          refine ⟨rfl, ?_⟩
          exact Rg.run_ok (v := .int .i64 i) (by simp [execOp, Rg.ev, go_sem, q1]) ⟨rfl, hR, rfl⟩
        refine ⟨Rg.at_run [51, 52] rfl ?_, ?_⟩
        · intro ρ W hR ⟨q51, q52, _⟩
          replace q51 : ρ 51 = .slice (some ⟨g, 0, none⟩) l.length cap := q51
          replace q52 : ρ 52 = .int .i64 i := q52
          refine ⟨rfl, ?_⟩
          have hs6 := run_sl_l (P := Tryz.prog) (A := some ⟨g, 0, none⟩) (n := l.length) (c := cap) (lo := (i : Int)) (kl := .i64) Tryz.underlying105 hi0 hz1 i rfl (by omega) W
          exact Rg.run_ok (v := .slice (cutA 4 (some ⟨g, 0, none⟩) cap i) (l.length - i) (cap - i)) (by simp [execOp, Rg.ev, go_sem, q51, q52, hs6]) ⟨rfl, hR, rfl⟩
        trivial
      case en =>
        intro tm W hR hsz hk
        rw [Rg.fin_eq (ds := [46, 47, 48, 49, 50, 51, 52, 53]) rfl rfl rfl hsz hk]
        have k46 : tm.getD 46 undef = .slice (some ⟨w.heap.size, 0, none⟩) (l.length + 1) G := hk 46
        have k47 : tm.getD 47 undef = .int .i64 i := hk 47
        have k48 : tm.getD 48 undef = .int .i64 1 := hk 48
        have k49 : tm.getD 49 undef = .int .i64 ((i : Int) + 1) := hk 49
        have k50 : tm.getD 50 undef = .slice (cutA 4 (some ⟨w.heap.size, 0, none⟩) G (i + 1)) (l.length + 1 - (i + 1)) (G - (i + 1)) := hk 50
        have k51 : tm.getD 51 undef = .slice (some ⟨g, 0, none⟩) l.length cap := hk 51
        have k52 : tm.getD 52 undef = .int .i64 i := hk 52
        have k53 : tm.getD 53 undef = .slice (cutA 4 (some ⟨g, 0, none⟩) cap i) (l.length - i) (cap - i) := hk 53
        clear hk hsz
        simp only [Rg.putAll, List.setIfInBounds_toArray, List.set_cons_zero, List.set_cons_succ, k46, k47, k48, k49, k50, k51, k52, k53]
        clear k46
        clear k47
        clear k48
        clear k49
        clear k50
        clear k51
        clear k52
        clear k53
        subst hR
        refine wpList_copy_run rfl _ _ _ rfl _ _ rfl rfl (HB.out _ _ _) ?_
        go_wp2
        go_ret
        exact HO.out _ (by simp)
end Go.Proofs.YtamimdlaclglkaaGreat
