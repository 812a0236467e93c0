/- A part of the proof of 'StateAll'. -/
import Derived.Test.YtamimdlaclglkaaGreatA35
import Derived.Test.YtamimdlaclglkaaGreatA37
import Derived.Test.YtamimdlaclglkaaGreatA9
namespace Go.Proofs.YtamimdlaclglkaaGreat
set_option linter.unusedVariables false
set_option linter.unusedSimpArgs false
set_option linter.unnecessarySimpa false
set_option maxRecDepth 100000
open Go.RowKit
/-- no Link, Session or Done begins in these cells -/
def NoS (cs : Array Value) : Prop := ∀ j, (∀ a b, cs[j]? = some (str a) → cs[j + 1]? = some (str b) → False) ∧ (∀ a b : Int, cs[j]? = some (.int .i64 a) → cs[j + 1]? = some (.int .u64 b) → False) ∧ (∀ a b : Int, cs[j]? = some (.int .u64 a) → cs[j + 1]? = some (.int .i64 b) → False)
theorem Sl.apartK {α : Type} {E : Enc α} {w : World} {X : Avoid} {v : Value} {l : List α} (h : Enc.Sl E w X v l) {g : Nat} {T : TypeId} {cs : Array Value} (hB : Blk w g T cs)
  (hk : ∀ {cs' a}, E.rep w X cs' a → ∃ u v, cs'[0]? = some u ∧ cs'[1]? = some v ∧ ∀ j, cs[j]? = some u → cs[j + 1]? = some v → False)
  (hw : ∀ {cs' a}, E.rep w X cs' a → E.rep w (fun k => X k ∨ k = g) cs' a) : Enc.Sl E w (fun k => X k ∨ k = g) v l := by
 obtain ⟨A', c', css, e, h1, h2, h3, h4, h5⟩ := id h
 refine ⟨A', c', css, e, h1, h2, h3, fun ad he h0 hx => hx.elim (h4 ad he h0) fun hg => ?_, ⟨h5.1, fun k cs a e1 e2 => hw (h5.2 k cs a e1 e2)⟩⟩
 subst e
 obtain ⟨ad2, cs', hA, hrep, -, hcell⟩ := h.at_ (k := 0) h0
 obtain ⟨u, v, hu, hv, hno⟩ := hk hrep
 rw [he] at hA
 obtain rfl := Option.some.inj hA
 subst hg
 have p0 := Enc.cell0 hcell hu
 have p1 := Enc.cellS hcell 0 hv
 simp only [Nat.zero_mul] at p0 p1
 have e0 : ad.add 0 = ad := by unfold Addr.add; simp
 rw [e0] at p0 p1
 have h7 : ∀ (a : Addr) v, a.block = ad.block → w.cell? a = some v → cs[a.off]? = some v := fun a v ha hv => by
  unfold World.cell? at hv
  unfold Blk at hB
  rw [ha, hB] at hv
  simp only at hv
  split at hv
  ·cases hv
  ·exact hv
 exact hno ad.off (h7 _ _ rfl p0) (h7 ⟨ad.block, ad.off + 1, none⟩ _ rfl p1)
theorem st_apartS {w : World} {X : Avoid} {x y u v : Value} {s : St} (h : stE.rep w X [x, y, u, v] s) {g : Nat} {T : TypeId} {cs : Array Value} (hB : Blk w g T cs) (hn : NoS cs) : stE.rep w (fun k => X k ∨ k = g) [x, y, u, v] s := by
 obtain ⟨vl, vs, hcs, h1, h2, h3, h4⟩ := st_rep.1 h
 simp only [stcells, List.cons.injEq, and_true] at hcs
 obtain ⟨rfl, rfl, rfl, rfl⟩ := hcs
 refine st_rep.2 ⟨_, _, rfl, h1, h2, ?_, ?_⟩
 ·exact Sl.apartK h3 hB (fun hr => by
   obtain ⟨rfl, -⟩ := ln_rep.1 hr
   exact ⟨_, _, rfl, rfl, fun j => (hn j).1 _ _⟩) ln_flatO
 ·exact Sl.apartK h4 hB (fun hr => by
   obtain ⟨v, rfl, -⟩ := se_rep.1 hr
   exact ⟨_, _, rfl, rfl, fun j => (hn j).2.1 _ _⟩) (fun hr => by
   obtain ⟨v, rfl, r1, r2, r3⟩ := se_rep.1 hr
   exact se_rep.2 ⟨v, rfl, r1, r2, Sl.apartK r3 hB (fun hr => by
    obtain ⟨rfl, -⟩ := dn_rep.1 hr
    exact ⟨_, _, rfl, rfl, fun j => (hn j).2.2 _ _⟩) (fun hr => dn_rep.2 (dn_rep.1 hr))⟩)
theorem nos4 : NoS #[.int .u64 0, .int .u64 0, .slice none 0 0, .slice none 0 0] := by
 intro j
 refine ⟨fun a b h h' => ?_, fun a b h h' => ?_, fun a b h h' => ?_⟩ <;> (rcases j with _ | _ | _ | _ | j <;> simp [str] at h h')
theorem nos4' (a b : Int) (A B : Option Addr) (n c m d : Nat) : NoS #[.int .u64 a, .int .u64 b, .slice A n c, .slice B m d] := by
 intro j
 refine ⟨fun a b h h' => ?_, fun a b h h' => ?_, fun a b h h' => ?_⟩ <;> (rcases j with _ | _ | _ | _ | j <;> simp [str] at h h')
theorem nos2 (a : Int) (b : Bytes) : NoS #[.int .i64 a, str b] := by
 intro j
 refine ⟨fun a b h h' => ?_, fun a b h h' => ?_, fun a b h h' => ?_⟩ <;> (rcases j with _ | _ | j <;> simp [str] at h h')
end Go.Proofs.YtamimdlaclglkaaGreat
namespace Go.Proofs.YtamimdlaclglkaaGreat
set_option linter.unusedVariables false
set_option linter.unusedSimpArgs false
set_option linter.unnecessarySimpa false
set_option maxRecDepth 100000
open Go.RowKit
theorem rstale_b (q h : Int) (w : World) (hq : U64 q) (hh : U64 h) : Calls Tryz.prog 70 #[.int .u64 q, .int .u64 h] w fun e w' => e = .returned (.bool (stale q h)) ∧ w = w' := by
 by_cases h1 : 4 ≤ h
 ·by_cases h2 : q ≤ h - 4
  ·have HS : Hid (stale q h = true) := by unfold Hid stale; simp [h1, h2]
   rw [HS.out]
   go_enter Tryz.func70, Tryz.ntmps70
   go_wp2
   go_ret
   exact ⟨rfl, rfl⟩
  ·have HS : Hid (stale q h = false) := by unfold Hid stale; simp [h1]; omega
   rw [HS.out]
   go_enter Tryz.func70, Tryz.ntmps70
   go_wp2
   go_ret
   exact ⟨rfl, rfl⟩
 ·have HS : Hid (stale q h = false) := by unfold Hid stale; simp [h1]
  rw [HS.out]
  go_enter Tryz.func70, Tryz.ntmps70
  go_wp2
  go_ret
  exact ⟨rfl, rfl⟩
theorem rfailsS_b (k : Int) (w : World) : Calls Tryz.prog 68 #[.int .i64 k] w fun e w' => e = .returned (.agg #[.int .i64 k, str []]) ∧ Ext w w' := by
 go_enter Tryz.func68, Tryz.ntmps68
 go_wp2
 refine bodyPost_ret (results_cell_row rfl _ _ w.heap.size 33 #[.int .i64 k, str []] (0, 0) _ rfl (Blk.new w _ _) Tryz.underlying33 rfl (by kernel_rfl)) rfl ?_
 exact ⟨rfl, (Ext.rfl' w).alloc' _⟩
theorem cntP_first {α : Type} (p : α → Bool) : ∀ (l : List α) (k : Nat), k ≤ l.length → (∀ (j : Nat) (x : α), j < k → l[j]? = some x → p x = true) → (∀ (x : α), l[k]? = some x → p x = false) → cntP p l = k
 | [], k, hk, _, _ => by simp [cntP] at *; omega
 | a :: l, 0, _, _, h => by simp [cntP, h a rfl]
 | a :: l, k + 1, hk, h1, h2 => by
  have ih := cntP_first p l k (by simpa using hk) (fun j x hj hx => h1 (j + 1) x (by omega) (by simpa using hx)) (fun x hx => h2 x (by simpa using hx))
  unfold cntP at *
  rw [List.takeWhile_cons, if_pos (h1 0 a (by omega) rfl)]
  simp [ih]
set_option maxHeartbeats 3200000 in
theorem rsession_b (s : St) (cs : List Value) (c : Int) (w : World) (hs : stE.rep w noneAt cs s) (hc : I64 c) :
  Calls Tryz.prog 69 #[.agg cs.toArray, .int .i64 c] w fun e w' => RetAt (sat s.sess c).1 (sat s.sess c).2 w w' e := by
 obtain ⟨vl, vs, rfl, s1, s2, s3, s4⟩ := st_rep.1 hs
 obtain ⟨As, cs', rfl, q3, q4⟩ := s4.form
 have hl : s.sess.length ≤ 9223372036854775807 := Nat.le_trans q3 q4
 clear q3 q4 hs
 have hB := Blk.new w 28 #[.int .u64 s.now, .int .u64 s.count, vl, .slice As s.sess.length cs']
 have hx0 : Ext w (w.alloc (.cells #[.int .u64 s.now, .int .u64 s.count, vl, .slice As s.sess.length cs'] 28)) := (Ext.rfl' w).alloc' _
 obtain ⟨g, hg⟩ : ∃ g, w.heap.size = g := ⟨_, rfl⟩
 rw [hg] at hB
 go_enter Tryz.func69, Tryz.ntmps69
 go_wp2_with fail
 generalize w.alloc (.cells #[.int .u64 s.now, .int .u64 s.count, vl, .slice As s.sess.length cs'] 28) = w1 at *
 go_loopw [6] (fun i wr => ∃ k : Nat, (k : Int) ≤ s.sess.length ∧ i = .int .i64 k ∧ Hid (∀ (j : Nat) (x : Se), j < k → s.sess[j]? = some x → x.client < c) ∧ Ext w1 wr) (fun i _ => (s.sess.length - intOf i).toNat)
 case atStart => exact ⟨0, by omega, rfl, hide (fun j x h => by omega), Ext.rfl' _⟩
 case round =>
  obtain ⟨k, hk, rfl, hd, hx⟩ := hrel
  have b3 := ((hB.ext hx).cell 3).trans rfl
  by_cases hlt : (k : Int) < s.sess.length
  ·obtain ⟨ad, y, v, rfl, hyk, hbk, p0, -⟩ := se_at (s4.ext (hx0.trans' hx)) (k := k) (by omega)
   by_cases hc1 : y.client < c
   ·have HD2 : Hid (∀ (j : Nat) (x : Se), j < k + 1 → s.sess[j]? = some x → x.client < c) := hide fun j x hj hx => by
     by_cases hjk : j = k
     ·subst hjk
      rw [hyk.out] at hx
      cases hx
      exact hc1
     ·exact hd.out j x (by omega) hx
    go_wp2
    go_roundw
    case rel => exact ⟨k + 1, by omega, by go_num, HD2, hx⟩
    case measure => simp [intOf]; omega
   ·by_cases hc2 : y.client = c
    ·have HS : Hid (sat s.sess c = (k, true)) := by
      have h1 := cntP_first (ltC c) s.sess k (by omega) (fun j x hj hx => by simpa using hd.out j x hj hx) (fun x hx => by rw [hyk.out] at hx; cases hx; simpa using hc1)
      unfold Hid sat
      rw [h1, hyk.out]
      simp [hc2]
     have hc3 : (y.client == c) = true := by simpa using hc2
     go_wp2_with fail
     go_region
     go_wp2
     go_ret2
     rw [HS.out]
     exact ⟨rfl, (hx0.trans' hx).drew'⟩
    ·have HS : Hid (sat s.sess c = (k, false)) := by
      have h1 := cntP_first (ltC c) s.sess k (by omega) (fun j x hj hx => by simpa using hd.out j x hj hx) (fun x hx => by rw [hyk.out] at hx; cases hx; simpa using hc1)
      unfold Hid sat
      rw [h1, hyk.out]
      simp [hc2]
     have hc3 : (y.client == c) = false := by simpa using hc2
     go_wp2_with fail
     go_region
     go_wp2
     go_ret2
     rw [HS.out]
     exact ⟨rfl, (hx0.trans' hx).drew'⟩
  ·obtain rfl : k = s.sess.length := by omega
   have HS : Hid (sat s.sess c = (s.sess.length, false)) := by
    have h1 := cntP_first (ltC c) s.sess s.sess.length (by omega) (fun j x hj hx => by simpa using hd.out j x hj hx) (fun x hx => by simp at hx)
    unfold Hid sat
    rw [h1]
    simp
   go_wp2_with fail
   go_region
   go_wp2
   go_ret2
   rw [HS.out]
   exact ⟨rfl, (hx0.trans' hx).drew'⟩
end Go.Proofs.YtamimdlaclglkaaGreat
namespace Go.Proofs.YtamimdlaclglkaaGreat
set_option linter.unusedVariables false
set_option linter.unusedSimpArgs false
set_option linter.unnecessarySimpa false
set_option maxRecDepth 100000
open Go.RowKit
theorem sown_sat_no {l : List Se} {c : Int} {i : Nat} (h : sat l c = (i, false)) : sown l c = ⟨c, 0, []⟩ := by
 unfold sat at h
 unfold sown
 obtain ⟨h1, h2⟩ := Prod.mk.inj h
 cases hx : l[cntP (ltC c) l]? with
 | none => rfl
 | some x =>
  rw [hx] at h2
  have h3 : ¬ x.client = c := by simpa using h2
  simp [h3]
theorem sown_sat_yes {l : List Se} {c : Int} {i : Nat} (h : sat l c = (i, true)) : ∃ x, l[i]? = some x ∧ x.client = c ∧ sown l c = x := by
 unfold sat at h
 unfold sown
 obtain ⟨h1, h2⟩ := Prod.mk.inj h
 subst h1
 cases hx : l[cntP (ltC c) l]? with
 | none => rw [hx] at h2; cases h2
 | some x =>
  rw [hx] at h2
  have h3 : x.client = c := by simpa using h2
  exact ⟨x, rfl, h3, by simp [h3]⟩
set_option maxHeartbeats 3200000 in
theorem rask_b (s : St) (cs : List Value) (c : Cm) (w : World) (hs : stE.rep w noneAt cs s) (hc : c.wide) (hr : RiseS s.sess) (hl : s.sess.length ≤ 100000) :
  Calls Tryz.prog 31 #[.agg cs.toArray, cv c] w fun e w' => RetAsk (ask s c.client c.seq) w w' e := by
 obtain ⟨vl, vs, rfl, s1, s2, s3, s4⟩ := st_rep.1 hs
 obtain ⟨Al, cl, rfl, -, -⟩ := s3.form
 obtain ⟨As, cs', rfl, -, -⟩ := s4.form
 obtain ⟨kind, client, seq, name, url, till⟩ := c
 obtain ⟨k0, k1, c0, c1, q0, q1, n1, u1, t0, t1⟩ := hc
 simp only at k0 k1 c0 c1 q0 q1 n1 u1 t0 t1
 obtain ⟨hB, hC, hR, hx0⟩ := new3 w 28 37 33 #[.int .u64 s.now, .int .u64 s.count, .slice Al s.links.length cl, .slice As s.sess.length cs'] (ccells ⟨kind, client, seq, name, url, till⟩) #[.int .i64 0, str []]
 obtain ⟨S, hS⟩ : ∃ S, sown s.sess client = S := ⟨_, rfl⟩
 have HASK : Hid (ask s client seq = if client < 0 ∨ 4 ≤ client ∨ seq = 0 then (⟨1, []⟩, true) else match kept S.done seq with | some a => (a, true) | none => if stale seq S.high = true then (⟨14, []⟩, true) else (⟨0, []⟩, false)) := by
  unfold Hid; rw [← hS]; rfl
 have HS := hide hS
 clear hS
 by_cases hbad : client < 0 ∨ 4 ≤ client ∨ seq = 0
 ·have HA : Hid (ask s client seq = (⟨1, []⟩, true)) := by unfold Hid; rw [HASK.out, if_pos hbad]
  show Calls Tryz.prog 31 _ w fun e w' => RetAsk (ask s client seq) w w' e
  rw [HA.out]
  have key : ∀ W1, Ext (((w.alloc (.cells #[.int .u64 s.now, .int .u64 s.count, .slice Al s.links.length cl, .slice As s.sess.length cs'] 28)).alloc (.cells (ccells ⟨kind, client, seq, name, url, till⟩) 37)).alloc (.cells #[.int .i64 0, str []] 33)) W1 →
    Blk ((W1.setCell ⟨w.heap.size + 2, 0, none⟩ (.int .i64 1)).setCell ⟨w.heap.size + 2, 1, none⟩ (str [])) (w.heap.size + 2) 33 #[.int .i64 1, str []] ∧ Ext w ((W1.setCell ⟨w.heap.size + 2, 0, none⟩ (.int .i64 1)).setCell ⟨w.heap.size + 2, 1, none⟩ (str [])) := fun W1 hx =>
   ⟨((hR.ext hx).set_ 0 _).set_ 1 _, (hx0.trans' hx).then_ (((Chg.refl [w.heap.size + 2] W1).set (by simp) _).set (by simp) _) (by simp)⟩
  have HK := hide key
  clear key
  by_cases b1 : client < 0
  ·go_enter Tryz.func31, Tryz.ntmps31
   go_wp2_with fail
   refine (rfailsS_b 1 _).mono ?_
   rintro e W1 ⟨rfl, hx1⟩
   have hR1 := hR.ext hx1
   have y0 := (hR1.cell 0).trans rfl
   have y1 := (hR1.cell 1).trans rfl
   have z0 := hR1.frozen 0
   have z1 := hR1.frozen 1
   go_wp2
   try simp only [Exit.inBlock, Exit.then]
   refine bodyPost_ret (results_cell2 rfl _ _ (w.heap.size + 2) 33 #[.int .i64 1, str []] (0, 0) _ rfl (HK.out W1 hx1).1 Tryz.underlying33 rfl (by kernel_rfl)) rfl ?_
   exact ⟨rfl, (HK.out W1 hx1).2⟩
  ·by_cases b2 : 4 ≤ client
   ·go_enter Tryz.func31, Tryz.ntmps31
    go_wp2_with fail
    refine (rfailsS_b 1 _).mono ?_
    rintro e W1 ⟨rfl, hx1⟩
    have hR1 := hR.ext hx1
    have y0 := (hR1.cell 0).trans rfl
    have y1 := (hR1.cell 1).trans rfl
    have z0 := hR1.frozen 0
    have z1 := hR1.frozen 1
    go_wp2
    try simp only [Exit.inBlock, Exit.then]
    refine bodyPost_ret (results_cell2 rfl _ _ (w.heap.size + 2) 33 #[.int .i64 1, str []] (0, 0) _ rfl (HK.out W1 hx1).1 Tryz.underlying33 rfl (by kernel_rfl)) rfl ?_
    exact ⟨rfl, (HK.out W1 hx1).2⟩
   ·obtain rfl : seq = 0 := by omega
    go_enter Tryz.func31, Tryz.ntmps31
    go_wp2_with fail
    refine (rfailsS_b 1 _).mono ?_
    rintro e W1 ⟨rfl, hx1⟩
    have hR1 := hR.ext hx1
    have y0 := (hR1.cell 0).trans rfl
    have y1 := (hR1.cell 1).trans rfl
    have z0 := hR1.frozen 0
    have z1 := hR1.frozen 1
    go_wp2
    try simp only [Exit.inBlock, Exit.then]
    refine bodyPost_ret (results_cell2 rfl _ _ (w.heap.size + 2) 33 #[.int .i64 1, str []] (0, 0) _ rfl (HK.out W1 hx1).1 Tryz.underlying33 rfl (by kernel_rfl)) rfl ?_
    exact ⟨rfl, (HK.out W1 hx1).2⟩
 ·have b1 : ¬ client < 0 := fun h => hbad (.inl h)
  have b2 : ¬ 4 ≤ client := fun h => hbad (.inr (.inl h))
  have b3 : (seq == 0) = false := by simp; exact fun h => hbad (.inr (.inr h))
  have HA : Hid (ask s client seq = match kept S.done seq with | some a => (a, true) | none => if stale seq S.high = true then (⟨14, []⟩, true) else (⟨0, []⟩, false)) := by unfold Hid; rw [HASK.out, if_neg hbad]
  show Calls Tryz.prog 31 _ w fun e w' => RetAsk (ask s client seq) w w' e
  have key : ∀ W1 (a b : Value), Ext (((w.alloc (.cells #[.int .u64 s.now, .int .u64 s.count, .slice Al s.links.length cl, .slice As s.sess.length cs'] 28)).alloc (.cells (ccells ⟨kind, client, seq, name, url, till⟩) 37)).alloc (.cells #[.int .i64 0, str []] 33)) W1 →
    Blk ((W1.setCell ⟨w.heap.size + 2, 0, none⟩ a).setCell ⟨w.heap.size + 2, 1, none⟩ b) (w.heap.size + 2) 33 #[a, b] ∧ Ext w ((W1.setCell ⟨w.heap.size + 2, 0, none⟩ a).setCell ⟨w.heap.size + 2, 1, none⟩ b) := fun W1 a b hx =>
   ⟨((hR.ext hx).set_ 0 _).set_ 1 _, (hx0.trans' hx).then_ (((Chg.refl [w.heap.size + 2] W1).set (by simp) _).set (by simp) _) (by simp)⟩
  have HK := hide key
  clear key hbad HASK
  have HSES := hide (fun W cs h => rsession_b s cs client W h ⟨c0, c1⟩)
  have hse := stE.ext hs hx0
  go_enter Tryz.func31, Tryz.ntmps31
  go_wp2_with fail
  refine (HSES.out _ _ hse).mono ?_
  rintro e W1 ⟨rfl, hx1⟩
  clear hse hs
  obtain ⟨i, is, hsat⟩ : ∃ i is, sat s.sess client = (i, is) := ⟨_, _, rfl⟩
  rw [hsat]
  cases is with
  | false =>
   have hS0 : S = ⟨client, 0, []⟩ := HS.out.symm.trans (sown_sat_no hsat)
   have HF : Hid (ask s client seq = (⟨0, []⟩, false)) := by
    unfold Hid
    rw [HA.out, hS0]
    simp [kept, stale]
   clear hS0 hsat
   have hR1 := hR.ext hx1
   have y0 := (hR1.cell 0).trans rfl
   have y1 := (hR1.cell 1).trans rfl
   have z0 := hR1.frozen 0
   have z1 := hR1.frozen 1
   go_wp2
   try simp only [Exit.inBlock, Exit.then]
   refine bodyPost_ret (results_cell2 rfl _ _ (w.heap.size + 2) 33 #[.int .i64 0, str []] (0, 0) _ rfl (HK.out _ _ _ hx1).1 Tryz.underlying33 rfl (by kernel_rfl)) rfl ?_
   rw [HF.out]
   exact ⟨rfl, (HK.out _ _ _ hx1).2⟩
  | true =>
   obtain ⟨x, hxi, hxc, hown⟩ := sown_sat_yes hsat
   obtain rfl : S = x := HS.out.symm.trans hown
   clear hsat hown
   have hil := (List.getElem?_eq_some_iff.1 hxi).1
   obtain ⟨ad, x', v, rfl, hxi', hbk, p0, p1, p2, r1, r2, r3⟩ := se_at (s4.ext (hx0.trans' hx1)) (k := i) hil
   obtain rfl : S = x' := Option.some.inj (hxi.symm.trans hxi'.out)
   clear hxi hxi' hxc
   obtain ⟨Av, cv', rfl, m1, m2⟩ := r3.form
   have hdl : S.done.length ≤ 9223372036854775807 := Nat.le_trans m1 m2
   clear m1 m2
   obtain ⟨g6, hg6⟩ : ∃ g, W1.heap.size = g := ⟨_, rfl⟩
   have hO := Blk.new W1 56 (secells S (.slice Av S.done.length cv')).toArray
   rw [hg6] at hO
   have hxo : Ext W1 (W1.alloc (.cells (secells S (.slice Av S.done.length cv')).toArray 56)) := (Ext.rfl' W1).alloc' _
   have hB1 := hB.ext hx1
   have b3 := (hB1.cell 3).trans rfl
   have hC1 := (hC.ext hx1).ext hxo
   have hR1 := (hR.ext hx1).ext hxo
   have r3' := r3.ext hxo
   have hx1' := hx1.trans' hxo
   have hiL : (i : Int) < s.sess.length := by omega
   go_wp2_with fail
   clear b3 hB1 p0 p1 p2 hiL
   go_loopw [9] (fun i wr => ∃ a : Nat, a ≤ S.done.length ∧ i = .int .i64 a ∧ Hid (∀ m x, m < a → S.done[m]? = some x → decide (x.seq = seq) = false) ∧ Ext (W1.alloc (.cells (secells S (.slice Av S.done.length cv')).toArray 56)) wr) (fun i _ => (S.done.length - intOf i).toNat)
   case atStart => exact ⟨0, Nat.zero_le _, rfl, hide fun m x h => by omega, Ext.rfl' _⟩
   case round =>
    obtain ⟨a, hal, rfl, hlo, hxr⟩ := hrel
    have hCr := hC1.ext hxr
    have hRr := hR1.ext hxr
    have hOr := hO.ext hxr
    have w2 := (hCr.cell 2).trans rfl
    have v2 := (hOr.cell 2).trans rfl
    have l1 := hCr.lt
    have l2 := hRr.lt
    have l3 := hOr.lt
    by_cases hlt : a < S.done.length
    ·obtain ⟨ad, d, rfl, hd, hbk, p0, p1, p2, d1, d2, d3⟩ := dn_at (r3'.ext hxr) (k := a) hlt
     have y0 := (hRr.cell 0).trans rfl
     have y1 := (hRr.cell 1).trans rfl
     have z0 := hRr.frozen 0
     have z1 := hRr.frozen 1
     by_cases heq : d.seq = seq
     ·have he2 : (d.seq == seq) = true := by simpa using heq
      have HF : Hid (ask s client seq = (d.an, true)) := by
       unfold Hid; rw [HA.out, kept_some a d hd.out heq hlo.out]
      go_wp2_with fail
      go_region
      go_wp2
      try simp only [Exit.inBlock, Exit.then]
      refine bodyPost_ret (results_cell2 rfl _ _ (w.heap.size + 2) 33 (acells d.an).toArray (0, 0) _ rfl (HK.out wr.drew _ _ (hx1'.trans' hxr.drew')).1 Tryz.underlying33 rfl (by kernel_rfl)) rfl ?_
      rw [HF.out]
      exact ⟨rfl, (HK.out wr.drew _ _ (hx1'.trans' hxr.drew')).2⟩
     ·have he2 : (d.seq == seq) = false := by simpa using heq
      go_wp2_with fail
      go_region
      go_wp2
      go_roundw
      case rel =>
       refine ⟨a + 1, by omega, by first | rfl | go_num, hide fun m x hm hx => ?_, hxr.drew'⟩
       by_cases hma : m < a
       ·exact hlo.out m x hma hx
       ·obtain rfl : m = a := by omega
        rw [hd.out] at hx
        obtain rfl := Option.some.inj hx
        simpa using heq
      case measure => simp [intOf]; omega
    ·obtain rfl : a = S.done.length := by omega
     have hkn := kept_none hlo.out
     have HF : Hid (ask s client seq = if stale seq S.high = true then (⟨14, []⟩, true) else (⟨0, []⟩, false)) := by
      unfold Hid; rw [HA.out, hkn]
     clear hkn
     have v1 := (hOr.cell 1).trans rfl
     go_wp2_with fail
     refine (rstale_b seq S.high _ ⟨q0, q1⟩ r2).mono ?_
     rintro e w' ⟨rfl, rfl⟩
     rcases Bool.eq_false_or_eq_true (stale seq S.high) with hst | hst
     ·have HT := hide hst
      rw [HT.out]
      clear hst
      have hRx := hRr
      go_wp2_with fail
      refine (rfailsS_b 14 _).mono ?_
      rintro e W9 ⟨rfl, hx9⟩
      have hR9 := hRr.ext hx9
      have y0 := (hR9.cell 0).trans rfl
      have y1 := (hR9.cell 1).trans rfl
      have z0 := hR9.frozen 0
      have z1 := hR9.frozen 1
      go_wp2
      try simp only [Exit.inBlock, Exit.then]
      refine bodyPost_ret (results_cell2 rfl _ _ (w.heap.size + 2) 33 #[.int .i64 14, str []] (0, 0) _ rfl (HK.out _ _ _ ((hx1'.trans' hxr).trans' hx9)).1 Tryz.underlying33 rfl (by kernel_rfl)) rfl ?_
      rw [HF.out, if_pos HT.out]
      exact ⟨rfl, (HK.out _ _ _ ((hx1'.trans' hxr).trans' hx9)).2⟩
     ·have HT := hide hst
      rw [HT.out]
      clear hst
      have y0 := (hRr.cell 0).trans rfl
      have y1 := (hRr.cell 1).trans rfl
      have z0 := hRr.frozen 0
      have z1 := hRr.frozen 1
      go_wp2
      try simp only [Exit.inBlock, Exit.then]
      refine bodyPost_ret (results_cell2 rfl _ _ (w.heap.size + 2) 33 #[.int .i64 0, str []] (0, 0) _ rfl (HK.out _ _ _ (hx1'.trans' hxr)).1 Tryz.underlying33 rfl (by kernel_rfl)) rfl ?_
      rw [HF.out, if_neg (by rw [HT.out]; simp)]
      exact ⟨rfl, (HK.out _ _ _ (hx1'.trans' hxr)).2⟩
end Go.Proofs.YtamimdlaclglkaaGreat
namespace Go.Proofs.YtamimdlaclglkaaGreat
set_option linter.unusedVariables false
set_option linter.unusedSimpArgs false
set_option linter.unnecessarySimpa false
set_option maxRecDepth 100000
open Go.RowKit
abbrev keepQ (seq H : Int) (d : Dn) : Bool := !(decide (d.seq = seq) || stale d.seq H)
theorem cntP_snoc {α : Type} (p : α → Bool) (F : List α) (d : α) (hd : p d = false) : cntP p (F ++ [d]) = cntP p F := by
 induction F with
 | nil => simp [cntP, hd]
 | cons a F ih =>
  unfold cntP at *
  rw [List.cons_append, List.takeWhile_cons, List.takeWhile_cons]
  split
  ·simpa using ih
  ·rfl
theorem dput_snoc (F : List Dn) (d x : Dn) (hd : ¬ d.seq < x.seq) : dput (F ++ [d]) x = dput F x ++ [d] := by
 have h1 : ltQ x.seq d = false := by simpa using Int.not_lt.1 hd
 have h2 := cntP_le (ltQ x.seq) F
 unfold dput
 rw [cntP_snoc _ F d h1, List.take_append_of_le_length h2, List.drop_append_of_le_length h2]
 simp
theorem cntP_all {α : Type} (p : α → Bool) (F : List α) (h : ∀ y ∈ F, p y = true) : cntP p F = F.length := by
 induction F with
 | nil => rfl
 | cons a F ih =>
  unfold cntP at *
  rw [List.takeWhile_cons, if_pos (h a (by simp))]
  simpa using ih fun y hy => h y (by simp [hy])
theorem dput_last (F : List Dn) (x : Dn) (h : ∀ y ∈ F, y.seq < x.seq) : dput F x = F ++ [x] := by
 unfold dput
 rw [cntP_all _ F fun y hy => by simpa using h y hy]
 simp
/-- what the loop has built of the first k -/
structure KInv (done : List Dn) (seq H : Int) (a : An) (k : Nat) (l : List Dn) (put : Bool) : Prop where
 no : put = false → l = (done.take k).filter (keepQ seq H) ∧ ∀ (j : Nat) (d : Dn), j < k → done[j]? = some d → d.seq ≤ seq
 yes : put = true → l = dput ((done.take k).filter (keepQ seq H)) ⟨seq, a⟩ ∧ ∀ (j : Nat) (d : Dn), k ≤ j → done[j]? = some d → seq < d.seq
theorem KInv.start (done : List Dn) (seq H : Int) (a : An) : KInv done seq H a 0 [] false := ⟨fun _ => ⟨by simp, fun j d h => by omega⟩, (fun h => by cases h)⟩
theorem take_snoc {done : List Dn} {k : Nat} {d : Dn} (hd : done[k]? = some d) : done.take (k + 1) = done.take k ++ [d] := by
 rw [List.take_add_one, hd]
 rfl
theorem filter_lt {done : List Dn} {seq H : Int} {k : Nat} (h : ∀ (j : Nat) (d : Dn), j < k → done[j]? = some d → d.seq ≤ seq) : ∀ y ∈ (done.take k).filter (keepQ seq H), y.seq < seq := by
 intro y hy
 obtain ⟨h1, h2⟩ := List.mem_filter.1 hy
 obtain ⟨j, hj⟩ := List.mem_iff_getElem?.1 h1
 have hjk : j < k := by
  have := (List.getElem?_eq_some_iff.1 hj).1
  simp at this
  omega
 rw [List.getElem?_take_of_lt hjk] at hj
 have h3 := h j y hjk hj
 have h4 : ¬ y.seq = seq := fun e => by simp [keepQ, e] at h2
 omega
/-- the first of the two steps: l's value and put's, ahead of the element itself -/
theorem KInv.mid {done : List Dn} {seq H : Int} {a : An} {k : Nat} {l : List Dn} {put : Bool} {d : Dn} (h : KInv done seq H a k l put) (hr : RiseD done) (hd : done[k]? = some d) (hs : seq < d.seq) (hp : put = false) :
  KInv done seq H a k (l ++ [⟨seq, a⟩]) true :=
 ⟨(fun h => by cases h), fun _ => ⟨by rw [(h.no hp).1]; exact (dput_last ((done.take k).filter (keepQ seq H)) ⟨seq, a⟩ (filter_lt (h.no hp).2)).symm, fun j x hj hx => by
  rcases Nat.lt_or_ge k j with h1 | h1
  ·have := pw_at hr h1 hd hx; omega
  ·obtain rfl : j = k := by omega
   rw [hd] at hx
   cases hx
   exact hs⟩⟩
theorem KInv.step {done : List Dn} {seq H : Int} {a : An} {k : Nat} {l : List Dn} {put : Bool} {d : Dn} (h : KInv done seq H a k l put) (hd : done[k]? = some d) (hs : put = false → d.seq ≤ seq) :
  KInv done seq H a (k + 1) (if keepQ seq H d = true then l ++ [d] else l) put := by
 have ht := take_snoc hd
 constructor
 ·intro hp
  obtain ⟨h1, h2⟩ := h.no hp
  refine ⟨?_, fun j x hj hx => ?_⟩
  ·rw [ht, List.filter_append, h1]
   by_cases hk : keepQ seq H d = true
   ·rw [if_pos hk, List.filter_cons_of_pos hk, List.filter_nil]
   ·rw [if_neg hk, List.filter_cons_of_neg hk, List.filter_nil, List.append_nil]
  ·by_cases hjk : j = k
   ·subst hjk
    rw [hd] at hx
    cases hx
    exact hs hp
   ·exact h2 j x (by omega) hx
 ·intro hp
  obtain ⟨h1, h2⟩ := h.yes hp
  refine ⟨?_, fun j x hj hx => h2 j x (by omega) hx⟩
  rw [ht, List.filter_append, h1]
  by_cases hk : keepQ seq H d = true
  ·rw [if_pos hk, List.filter_cons_of_pos hk, List.filter_nil, dput_snoc]
   have := h2 k d (Nat.le_refl _) hd
   simp
   omega
  ·rw [if_neg hk, List.filter_cons_of_neg hk, List.filter_nil, List.append_nil]
/-- what is built in the end -/
theorem KInv.done {done : List Dn} {seq H : Int} {a : An} {l : List Dn} {put : Bool} (h : KInv done seq H a done.length l put) : (if put = true then l else l ++ [⟨seq, a⟩]) = dput (done.filter (keepQ seq H)) ⟨seq, a⟩ := by
 cases put with
 | true =>
  rw [if_pos rfl, (h.yes rfl).1, List.take_length]
 | false =>
  rw [if_neg (by simp), (h.no rfl).1]
  have := filter_lt (H := H) (h.no rfl).2
  rw [List.take_length] at this ⊢
  exact (dput_last (done.filter (keepQ seq H)) ⟨seq, a⟩ this).symm
theorem skeep_done (own : Se) (seq : Int) (a : An) : (skeep own seq a).done = dput (own.done.filter (keepQ seq (max own.high seq))) ⟨seq, a⟩ := rfl
end Go.Proofs.YtamimdlaclglkaaGreat
