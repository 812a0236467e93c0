/- A part of the proof of 'StateBytes'. -/
import Derived.Test.YtamimdlaclglkaaGreatB13
namespace Go.Proofs.YtamimdlaclglkaaGreat
open Go.RowKit
/-- a row of memory made since w0, whatever it holds -/
def Fresh (T : TypeId) (size : Nat) (w0 w : World) (v : Value) (n : Nat) : Prop := ∃ xs, w.ownsRow w0.heap.size T size v n xs
theorem Own.fresh {α : Type} {T : TypeId} {E : Enc α} {w0 w : World} {X : Avoid} {v : Value} {l : List α} (h : Own T E w0 w X v l) : Fresh T E.size w0 w v l.length := by
  obtain ⟨css, h1, -⟩ := h
  exact ⟨_, h1⟩
theorem Fresh.lt {T : TypeId} {size n : Nat} {w0 w : World} {v : Value} (h : Fresh T size w0 w v n) : ∀ k, v.ownBlock = some k → w0.heap.size ≤ k ∧ k < w.heap.size := by
  obtain ⟨xs, h1⟩ := h
  exact h1.lt
theorem Fresh.chg {T : TypeId} {size n : Nat} {w0 w w' : World} {v : Value} {S : List Nat} (h : Fresh T size w0 w v n) (hc : Chg S w w') (hn : ∀ k, v.ownBlock = some k → k ∉ S) : Fresh T size w0 w' v n := by
  obtain ⟨xs, h1⟩ := h
  exact ⟨xs, own_chg h1 hc hn⟩
theorem Fresh.ext {T : TypeId} {size n : Nat} {w0 w w' : World} {v : Value} (h : Fresh T size w0 w v n) (hx : Ext w w') : Fresh T size w0 w' v n := h.chg (hx.chg []) (fun _ _ hm => by cases hm)
theorem Fresh.base {T : TypeId} {size n : Nat} {w0 w1 w : World} {v : Value} (h : Fresh T size w1 w v n) (hs : w0.heap.size ≤ w1.heap.size) : Fresh T size w0 w v n := by
  obtain ⟨xs, h1⟩ := h
  exact ⟨xs, own_base h1 hs⟩
/-- a state whose lists are new -/
def RetStO (X : Avoid) (w w' : World) (e : Ending) (s : St) : Prop := ∃ (AL : Option Addr) (cL : Nat) (AS : Option Addr) (cS : Nat), e = .returned (.agg #[.int .u64 s.now, .int .u64 s.count, .slice AL s.links.length cL, .slice AS s.sess.length cS]) ∧
  stE.rep w' X [.int .u64 s.now, .int .u64 s.count, .slice AL s.links.length cL, .slice AS s.sess.length cS] s ∧ Fresh 53 4 w w' (.slice AL s.links.length cL) s.links.length ∧ Fresh 56 3 w w' (.slice AS s.sess.length cS) s.sess.length ∧ Ext w w'
theorem RetStO.agg {X : Avoid} {w w' : World} {e : Ending} {s : St} (h : RetStO X w w' e s) : RetAgg stE X w w' e s := by
  obtain ⟨AL, cL, AS, cS, rfl, h1, -, -, h2⟩ := h
  exact ⟨_, rfl, h1, h2⟩
end Go.Proofs.YtamimdlaclglkaaGreat
namespace Go.Proofs.YtamimdlaclglkaaGreat.KX
set_option linter.unusedVariables false
set_option linter.unusedSimpArgs false
set_option linter.unnecessarySimpa false
set_option maxRecDepth 100000
open Go.RowKit
abbrev X4 (X : Avoid) (n : Nat) : Avoid := fun k => X k ∨ k = n ∨ k = n + 3
theorem x4_lt {X : Avoid} {n m k : Nat} (hX : ∀ k, X k → k < m) (h : n < m) (h3 : n + 3 < m) (hk : X4 X n k) : k < m := by
  rcases hk with hk | rfl | rfl
  · exact hX _ hk
  · exact h
  · exact h3
theorem x4_ge {X : Avoid} {n k : Nat} (h : X4 X n k) : X k ∨ n ≤ k := by
  rcases h with h | rfl | rfl
  · exact .inl h
  · exact .inr (Nat.le_refl _)
  · exact .inr (by omega)
/-- what the state's variable holds, after so many of the two stores -/
def RK (X : Avoid) (g : Nat) (W7 : World) (s : St) (vl vs : Value) (ss : List Se) : Nat → World → Prop
  | 0, W => Blk W g 28 #[.int .u64 s.now, .int .u64 s.count, vl, vs] ∧ Chg [g] W7 W
  | 1, W => (∃ u, Blk W g 28 #[.int .u64 s.now, .int .u64 s.count, u, vs] ∧ Own 53 lnE W7 W (X4 X g) u s.links) ∧ Chg [g] W7 W
  | _, W => (∃ u v, Blk W g 28 #[.int .u64 s.now, .int .u64 s.count, u, v] ∧ Own 53 lnE W7 W (X4 X g) u s.links ∧ Own 56 seE W7 W (X4 X g) v ss) ∧ Chg [g] W7 W
section
variable {X : Avoid} {g i : Nat} {w W7 W W2 : World} {s : St} {vl vs : Value} {ss : List Se}
theorem RK.chg (h : RK X g W7 s vl vs ss i W) : Chg [g] W7 W := by
  match i, h with
  | 0, h => exact h.2
  | 1, h => exact h.2
  | _ + 2, h => exact h.2
theorem RK.size (h : RK X g W7 s vl vs ss i W) : W7.heap.size ≤ W.heap.size := h.chg.size
theorem RK.lt (h : RK X g W7 s vl vs ss i W) : g < W.heap.size := by
  match i, h with
  | 0, h => exact h.1.lt
  | 1, h => obtain ⟨⟨u, h, _⟩, _⟩ := h; exact h.lt
  | _ + 2, h => obtain ⟨⟨u, v, h, _⟩, _⟩ := h; exact h.lt
theorem RK.x4 {k : Nat} (h : RK X g W7 s vl vs ss i W) (hX : ∀ k, X k → k < W7.heap.size) (h4 : g + 3 < W7.heap.size) (hk : X4 X g k) : k < W.heap.size := x4_lt (fun k hk => Nat.lt_of_lt_of_le (hX k hk) h.size) h.lt (Nat.lt_of_lt_of_le h4 h.size) hk
theorem RK.ext (h : RK X g W7 s vl vs ss i W) (hx : Ext W W2) : RK X g W7 s vl vs ss i W2 := by
  match i, h with
  | 0, h => exact ⟨h.1.ext hx, h.2.trans (hx.chg _)⟩
  | 1, h => obtain ⟨⟨u, h1, h2⟩, h3⟩ := h; exact ⟨⟨u, h1.ext hx, h2.ext hx⟩, h3.trans (hx.chg _)⟩
  | _ + 2, h => obtain ⟨⟨u, v, h1, h2, h4⟩, h3⟩ := h; exact ⟨⟨u, v, h1.ext hx, h2.ext hx, h4.ext hx⟩, h3.trans (hx.chg _)⟩
theorem RK.ext7 (h : RK X g W7 s vl vs ss i W) (hx : Ext w W7) (hg : w.heap.size ≤ g) : Ext w W := hx.then_ h.chg (by simpa using hg)
theorem RK.cell {p : Addr} (h : RK X g W7 s vl vs ss i W) (hp : p.block < W7.heap.size) (hn : p.block ≠ g) : W.cell? p = W7.cell? p := h.chg.cell hp (by simpa using hn)
theorem RK.blk0 (h : RK X g W7 s vl vs ss 0 W) : Blk W g 28 #[.int .u64 s.now, .int .u64 s.count, vl, vs] := h.1
theorem RK.at3 (h : RK X g W7 s vl vs ss 1 W) : ∃ u3, W.frozen? ⟨g, 3, none⟩ = false ∧ W.cell? ⟨g, 3, none⟩ = some u3 := by
  obtain ⟨⟨u, h, _⟩, _⟩ := h
  exact ⟨vs, h.frozen _, (h.cell 3).trans rfl⟩
theorem RK.start (h : Blk W7 g 28 #[.int .u64 s.now, .int .u64 s.count, vl, vs]) : RK X g W7 s vl vs ss 0 W7.drew := ⟨h, (Chg.refl _ _).drew⟩
theorem RK.st1 {u : Value} (h : RK X g W7 s vl vs ss 0 W) (hu : Own 53 lnE W7 W (X4 X g) u s.links) : RK X g W7 s vl vs ss 1 (W.setCell ⟨g, 2, none⟩ u) :=
  ⟨⟨u, h.1.set_ 2 u, hu.chg ((Chg.refl [g] W).set (by simp) u) (fun k hk _ => .inr (.inl (by simpa using hk)))⟩, h.2.set (by simp) u⟩
theorem RK.st2 {u : Value} (h : RK X g W7 s vl vs ss 1 W) (hu : Own 56 seE W7 W (X4 X g) u ss) : RK X g W7 s vl vs ss 2 (W.setCell ⟨g, 3, none⟩ u) := by
  obtain ⟨⟨v, h1, h2⟩, h3⟩ := h
  exact ⟨⟨v, u, h1.set_ 3 u, h2.chg ((Chg.refl [g] W).set (by simp) u) (fun k hk _ => .inr (.inl (by simpa using hk))), hu.chg ((Chg.refl [g] W).set (by simp) u) (fun k hk _ => .inr (.inl (by simpa using hk)))⟩, h3.set (by simp) u⟩
end
set_option maxHeartbeats 6400000 in
theorem skeepXO_b (X : Avoid) (s : St) (cs : List Value) (c : Cm) (a : An) (w : World) (hX : ∀ k, X k → k < w.heap.size) (hs : stE.rep w X cs s) (hc : c.wide) (ha : I64 a.err ∧ a.text.length ≤ maxLen) (hr : RiseS s.sess) (hl : s.sess.length ≤ 1000) (hll : s.links.length ≤ 100000)
    (hd : ∀ x ∈ s.sess, RiseD x.done ∧ x.done.length ≤ 1000) :
    Calls Tryz.prog 30 #[.agg cs.toArray, cv c, .agg (acells a).toArray] w fun e w' => RetStO X w w' e (keep s c.client c.seq a) := by
  obtain ⟨vl, vs, rfl, s1, s2, s3, s4⟩ := st_rep.1 hs
  obtain ⟨Al, cl, rfl, -, -⟩ := s3.form
  obtain ⟨As, cs', rfl, -, -⟩ := s4.form
  obtain ⟨kind, client, seq, name, url, till⟩ := c
  obtain ⟨k0, k1, c0, c1, q0, q1, n1, u1, t0, t1⟩ := hc
  simp only at k0 k1 c0 c1 q0 q1 n1 u1 t0 t1
  have s3' := s3.mono (Y := fun k => X k ∨ w.heap.size ≤ k) fun k hk h => h.elim id fun h => absurd h (by omega)
  have s4' := s4.mono (Y := fun k => X k ∨ w.heap.size ≤ k) fun k hk h => h.elim id fun h => absurd h (by omega)
  obtain ⟨hB, hC, hA, hR, hx0, hsz0⟩ := new4 w 28 37 33 28 (stcells s (.slice Al s.links.length cl) (.slice As s.sess.length cs')).toArray (ccells ⟨kind, client, seq, name, url, till⟩) (acells a).toArray #[.int .u64 0, .int .u64 0, .slice none 0 0, .slice none 0 0]
  obtain ⟨S, hS⟩ : ∃ S, sown s.sess client = S := ⟨_, rfl⟩
  have hSd : RiseD S.done ∧ S.done.length ≤ 1000 := by
    rw [← hS]
    unfold sown
    split
    · rename_i x hx
      split
      · exact hd x (List.mem_of_getElem? hx)
      · exact ⟨.nil, by simp⟩
    · exact ⟨.nil, by simp⟩
  have HO := hide (fun W h => own_b (fun k => X k ∨ w.heap.size ≤ k) (.slice As s.sess.length cs') s.sess ⟨kind, client, seq, name, url, till⟩ W (by omega) h ⟨c0, c1⟩ hr)
  have HS := hide hS
  have hdl : ∀ x ∈ s.sess, x.done.length ≤ 1000 := fun x hx => (hd x hx).2
  show Calls Tryz.prog 30 _ w fun e w' => RetStO X w w' e (keep s client seq a)
  have HK : Hid (keep s client seq a = ⟨s.now, s.count, s.links, swith s.sess (skeep S seq a)⟩) := by unfold Hid keep; rw [hS]
  rw [HK.out]
  obtain ⟨N, hN⟩ : ∃ N, skeep S seq a = N := ⟨_, rfl⟩
  rw [hN]
  have HN := hide hN
  clear hS hN hd
  go_enter Tryz.func30, Tryz.ntmps30
  have hZ := Blk.new ((((w.alloc (.cells (stcells s (.slice Al s.links.length cl) (.slice As s.sess.length cs')).toArray 28)).alloc (.cells (ccells ⟨kind, client, seq, name, url, till⟩) 37)).alloc (.cells (acells a).toArray 33)).alloc (.cells #[.int .u64 0, .int .u64 0, .slice none 0 0, .slice none 0 0] 28)) 101 #[.slice As s.sess.length cs', .int .i64 kind, .int .i64 client, .int .u64 seq, str name, str url, .int .u64 till]
  rw [hsz0] at hZ
  have hxz := hx0.alloc' (.cells #[.slice As s.sess.length cs', .int .i64 kind, .int .i64 client, .int .u64 seq, str name, str url, .int .u64 till] 101)
  have hB1 := hB.alloc (.cells #[.slice As s.sess.length cs', .int .i64 kind, .int .i64 client, .int .u64 seq, str name, str url, .int .u64 till] 101)
  have hC1 := hC.alloc (.cells #[.slice As s.sess.length cs', .int .i64 kind, .int .i64 client, .int .u64 seq, str name, str url, .int .u64 till] 101)
  have hA1 := hA.alloc (.cells #[.slice As s.sess.length cs', .int .i64 kind, .int .i64 client, .int .u64 seq, str name, str url, .int .u64 till] 101)
  have hR1 := hR.alloc (.cells #[.slice As s.sess.length cs', .int .i64 kind, .int .i64 client, .int .u64 seq, str name, str url, .int .u64 till] 101)
  clear hB hC hA hR hsz0
  go_wp2_with fail
  refine (HO.out _ (s4'.ext hxz)).mono ?_
  rintro e W1 ⟨ce, rfl, hrep, hx1⟩
  rw [show sown s.sess (⟨kind, client, seq, name, url, till⟩ : Cm).client = S from HS.out] at hrep
  obtain ⟨v, rfl, r1, r2, r3⟩ := se_rep.1 hrep
  obtain ⟨Av, cv', rfl, m1, m2⟩ := r3.form
  obtain ⟨g8, hg8⟩ : ∃ g, W1.heap.size = g := ⟨_, rfl⟩
  have hO := Blk.new W1 56 (secells S (.slice Av S.done.length cv')).toArray
  rw [hg8] at hO
  have hB2 := (hB1.ext hx1).alloc (.cells (secells S (.slice Av S.done.length cv')).toArray 56)
  have hC2 := (hC1.ext hx1).alloc (.cells (secells S (.slice Av S.done.length cv')).toArray 56)
  have hA2 := (hA1.ext hx1).alloc (.cells (secells S (.slice Av S.done.length cv')).toArray 56)
  have hR2 := (hR1.ext hx1).alloc (.cells (secells S (.slice Av S.done.length cv')).toArray 56)
  have hZ2 := (hZ.ext hx1).alloc (.cells (secells S (.slice Av S.done.length cv')).toArray 56)
  have hlz := (hZ.ext hx1).lt
  rw [hg8] at hlz
  have hx2 := (hxz.trans' hx1).alloc' (.cells (secells S (.slice Av S.done.length cv')).toArray 56)
  have c2 := (hC2.cell 2).trans rfl
  have o0 := (hO.cell 0).trans rfl
  have o1 := (hO.cell 1).trans rfl
  have o2 := (hO.cell 2).trans rfl
  have of1 := hO.frozen 1
  have of2 := hO.frozen 2
  have r3d := r3.ext ((Ext.rfl' W1).alloc' (.cells (secells S (.slice Av S.done.length cv')).toArray 56))
  by_cases hmx : seq ≤ S.high
  · have hmx2 : ¬ S.high < seq := by omega
    have HM : Hid (max S.high seq = S.high) := by unfold Hid; omega
    have hH : U64 S.high := ⟨by have := r2.1; omega, by have := r2.2; omega⟩
    clear hB2 hC2 hA2 hR2 hZ2 hx2 r3d
    have hO2 := Blk.new W1 56 #[.int .i64 S.client, .int .u64 S.high, .slice Av S.done.length cv']
    rw [hg8] at hO2
    have hB2 := (hB1.ext hx1).alloc (.cells #[.int .i64 S.client, .int .u64 S.high, .slice Av S.done.length cv'] 56)
    have hC2 := (hC1.ext hx1).alloc (.cells #[.int .i64 S.client, .int .u64 S.high, .slice Av S.done.length cv'] 56)
    have hA2 := (hA1.ext hx1).alloc (.cells #[.int .i64 S.client, .int .u64 S.high, .slice Av S.done.length cv'] 56)
    have hR2 := (hR1.ext hx1).alloc (.cells #[.int .i64 S.client, .int .u64 S.high, .slice Av S.done.length cv'] 56)
    have hZ2 := (hZ.ext hx1).alloc (.cells #[.int .i64 S.client, .int .u64 S.high, .slice Av S.done.length cv'] 56)
    have hxw2 := (hxz.trans' hx1).alloc' (.cells #[.int .i64 S.client, .int .u64 S.high, .slice Av S.done.length cv'] 56)
    have r3d := r3.ext ((Ext.rfl' W1).alloc' (.cells #[.int .i64 S.client, .int .u64 S.high, .slice Av S.done.length cv'] 56))
    have hg82 : g8 < (W1.alloc (.cells #[.int .i64 S.client, .int .u64 S.high, .slice Av S.done.length cv'] 56)).heap.size := hO2.lt
    go_wp2_with fail
    refine (clone_dn (.slice Av S.done.length cv') S.done _ (by omega) (slN r3d)).mono ?_
    rintro e W3 ⟨m3, A3, c3, hm3, rfl, hown3, hx3⟩
    have hm3' := hm3.out.symm
    subst hm3'
    have k2 := ((hC2.ext hx3).cell 2).trans rfl
    have k3 := ((hO2.ext hx3).cell 1).trans rfl
    go_wp2_with fail
    refine (delDn_b (fun d => decide (d.seq = seq) || stale d.seq S.high) (.pointer (some ⟨w.heap.size + 1, 0, none⟩)) (.pointer (some ⟨g8, 0, none⟩)) (.slice A3 S.done.length c3) S.done _ W3 (by omega) hown3 hx3
      (fun W d hW hd => keep1_b d (w.heap.size + 1) g8 seq S.high W hd ⟨q0, q1⟩ hH (hC2.ext hW).lt (hO2.ext hW).lt (((hC2.ext hW).cell 2).trans rfl) (((hO2.ext hW).cell 1).trans rfl))).mono ?_
    rintro e W4 ⟨m4, A4, c4, hm4, rfl, hown4, hx4⟩
    have hx34 := hx4
    have hl4 : m4.length ≤ 1000 := by rw [hm4.out]; exact Nat.le_trans (List.length_filter_le _ _) hSd.2
    have hO4 := hO2.ext hx34
    have j2 := (hO4.cell 2).trans rfl
    have jf := hO4.frozen 2
    have k4 := ((hC2.ext hx34).cell 2).trans rfl
    have hs4 : Chg [g8] W4 (W4.setCell ⟨g8, 2, none⟩ (.slice A4 m4.length c4)) := (Chg.refl _ _).set (by simp) _
    have hne1 : w.heap.size + 1 ∉ [g8] := by simp; omega
    have hown5 := (hown4.widen (Y := fun k => k = g8) (fun h => dn_widen h) (fun k hk => by subst hk; exact hg82)).chg hs4 (fun k hk _ => by simpa using hk)
    go_wp2_with fail
    refine (searchDn_b (.slice A4 m4.length c4) m4 seq _ (by omega) (slN hown5.sl) ⟨q0, q1⟩ (by have := (hSd.1.filter (fun d => !(decide (d.seq = seq) || stale d.seq S.high))).mono seq; rw [← hm4.out] at this; exact this)).mono ?_
    rintro e W6 ⟨rfl, hx6⟩
    obtain ⟨i, hi⟩ : ∃ i, cntP (fun s : Dn => decide (s.seq < seq)) m4 = i := ⟨_, rfl⟩
    rw [hi]
    have HI := hide hi
    have hil : i ≤ m4.length := by rw [← hi]; exact cntP_le _ _
    clear hi
    have hx56 : Ext (W1.alloc (.cells #[.int .i64 S.client, .int .u64 S.high, .slice Av S.done.length cv'] 56)) W4 := hx34
    have hC6 := ((hC2.ext hx34).chg hs4 hne1).ext hx6
    have hA6 := ((hA2.ext hx34).chg hs4 (by simp; omega)).ext hx6
    have hB6 := ((hB2.ext hx34).chg hs4 (by simp; omega)).ext hx6
    have hR6 := ((hR2.ext hx34).chg hs4 (by simp; omega)).ext hx6
    have hZ6 := ((hZ2.ext hx34).chg hs4 (by simp; omega)).ext hx6
    have hO6 := (hO4.set_ 2 (.slice A4 m4.length c4)).ext hx6
    have hown6 := hown5.ext hx6
    have k6 := (hC6.cell 2).trans rfl
    have a6 := (hA6.cell 0).trans rfl
    have a6' := (hA6.cell 1).trans rfl
    have j6 := (hO6.cell 2).trans rfl
    have hxw6 : Ext w W6 := ((hxw2.trans' hx34).then_ hs4 (by simp; omega)).trans' hx6
    obtain ⟨gv, hgv⟩ : ∃ g, W6.heap.size = g := ⟨_, rfl⟩
    have hn := Blk.new W6 68 (dcells ⟨seq, a⟩).toArray
    rw [hgv] at hn
    have hxn : Ext W6 (W6.alloc (.cells (dcells ⟨seq, a⟩).toArray 68)) := (Ext.rfl' W6).alloc' _
    have hC8 : Chg [g8] (W1.alloc (.cells #[.int .i64 S.client, .int .u64 S.high, .slice Av S.done.length cv'] 56)) W6 := ((hx34.chg _).trans hs4).trans (hx6.chg _)
    go_wp2_with fail
    have hOn := hO6.ext hxn
    have hle : g8 + 1 ≤ (W6.alloc (.cells (dcells ⟨seq, a⟩).toArray 68)).heap.size := hOn.lt
    have hg8v : g8 < gv := by have := hO6.lt; omega
    have hBn := (hB6.ext hxn).cutW hle (by omega)
    have hCn := (hC6.ext hxn).cutW hle (by omega)
    have hRn := (hR6.ext hxn).cutW hle (by omega)
    have hZn := (hZ6.ext hxn).cutW hle (by omega)
    have hOc := hOn.cutW hle (by omega)
    have hxc := (hxw6.trans' hxn).cutW hle (by omega)
    have hownc : Own 68 dnE (cutW (W6.alloc (.cells (dcells ⟨seq, a⟩).toArray 68)) (g8 + 1)) (W6.alloc (.cells (dcells ⟨seq, a⟩).toArray 68)) (fun k => k = g8) (.slice A4 m4.length c4) m4 := (hown6.ext hxn).base (by rw [cutW_size hle]; simp; omega)
    refine (insXDn_b (fun k => k = g8) _ _ (fun k hk => by subst hk; exact hOn.lt) (.slice A4 m4.length c4) m4 i gv ⟨seq, a⟩ (by omega) hil hownc (cutW_ext hle) (dcells ⟨seq, a⟩) hn (fun k hk h => by have := (hown6.lt k hk).2; omega) (fun h => by omega) (dn_rep.2 ⟨rfl, ⟨q0, q1⟩, ha.1, ha.2⟩)).mono ?_
    rintro e W7' ⟨m7, A7, c7, hm7, rfl, hown7, hx7'⟩
    have hl7 : m7.length ≤ 1001 := by rw [hm7.out]; simp; omega
    have hNe : N = ⟨S.client, S.high, m7⟩ := by
      rw [← HN.out, hm7.out, hm4.out]
      unfold skeep dput
      rw [HM.out]
      have h1 := HI.out
      rw [hm4.out] at h1
      simp only [h1]
    have hO7 := hOc.ext hx7'
    have j7 := (hO7.cell 2).trans rfl
    have jf7 := hO7.frozen 2
    have hs7 : Chg [g8] W7' (W7'.setCell ⟨g8, 2, none⟩ (.slice A7 m7.length c7)) := (Chg.refl _ _).set (by simp) _
    have hB7' := (hBn.ext hx7').chg hs7 (by simp; omega)
    have hR7' := (hRn.ext hx7').chg hs7 (by simp; omega)
    have hZ7' := (hZn.ext hx7').chg hs7 (by simp; omega)
    have hO7' := hO7.set_ 2 (.slice A7 m7.length c7)
    have hown7' := (hown7.widen (Y := fun k => k ≤ g8) (fun h => dn_widen h) (fun k hk => by rw [cutW_size hle]; omega)).chg hs7 (fun k hk _ => by simp at hk; subst hk; exact Nat.le_refl _)
    have hx7w := (hxc.trans' hx7').then_ hs7 (by simp; omega)
    go_wp2
    obtain ⟨W7, hW7⟩ : ∃ W, W = W7'.setCell ⟨g8, 2, none⟩ (.slice A7 m7.length c7) := ⟨_, rfl⟩
    rw [← hW7] at hB7' hR7' hZ7' hO7' hown7' hx7w
    try rw [← hW7]
    have hx7 := hx7w
    have hB7 : Blk W7 w.heap.size 28 #[.int .u64 s.now, .int .u64 s.count, .slice Al s.links.length cl, .slice As s.sess.length cs'] := hB7'
    have hb7 : w.heap.size ≤ w.heap.size := Nat.le_refl _
    have h7l : w.heap.size + 4 < W7.heap.size := hZ7'.lt
    have h8l : g8 < W7.heap.size := hO7'.lt
    have h4l : w.heap.size + 3 < W7.heap.size := hR7'.lt
    have a70 : W7.cell? ⟨w.heap.size + 4, 0, none⟩ = some (.slice As s.sess.length cs') := (hZ7'.cell 0).trans rfl
    have hls : s.sess.length ≤ 90000 := by omega
    obtain ⟨A8, c8, hN7, a80, a81, a82⟩ : ∃ A8 c8, seE.rep W7 (X4 X w.heap.size) (secells N (.slice A8 N.done.length c8)) N ∧ W7.cell? ⟨g8, 0, none⟩ = some (.int .i64 N.client) ∧ W7.cell? ⟨g8, 1, none⟩ = some (.int .u64 N.high) ∧ W7.cell? ⟨g8, 2, none⟩ = some (.slice A8 N.done.length c8) := by
      rw [hNe]
      exact ⟨A7, c7, se_rep.2 ⟨_, rfl, r1, hH, hown7'.sl.mono fun k _ hk => by
        rcases hk with hk | rfl | rfl
        · have h1 := hX k hk; omega
        · omega
        · omega⟩, (hO7'.cell 0).trans rfl, (hO7'.cell 1).trans rfl, (hO7'.cell 2).trans rfl⟩
    have HNe := hide hNe
    have hNl : N.done.length ≤ 1001 := by rw [hNe]; exact hl7
    clear hNe hW7 hO7' hZ7' hown7' hB7' hO7 hown7 hxc hOc hZn hRn hCn hBn hownc hs7 hOn hn hxn j7 jf7 hm7 hx7'
    refine Rg.regionE Tryz.checked.mixed 77 11 (by kernel_rfl) [
      ((false, false), (fun x_ _ => x_ = .pointer (some ⟨w.heap.size, 2, none⟩))),
      ((false, true), (fun x_ _ => x_ = .slice Al s.links.length cl)),
      ((false, false), (fun v W => Own 53 lnE W7 W (X4 X w.heap.size) v s.links)),
      ((false, false), (fun x_ _ => x_ = .pointer (some ⟨w.heap.size + 4, 0, none⟩))),
      ((false, false), (fun x_ _ => x_ = .slice As s.sess.length cs')),
      ((false, false), (fun x_ _ => x_ = .agg #[.int .i64 N.client, .int .u64 N.high, .slice A8 N.done.length c8])),
      ((false, false), (fun v W => Own 56 seE W7 W (X4 X w.heap.size) v (swith s.sess N))),
      ((false, false), (fun x_ _ => x_ = .pointer (some ⟨w.heap.size, 2, none⟩))),
      ((true, false), (fun x_ _ => x_ = undef)),
      ((false, false), (fun x_ _ => x_ = .pointer (some ⟨w.heap.size, 3, none⟩))),
      ((true, false), (fun x_ _ => x_ = undef))] (by kernel_rfl) (RK X w.heap.size W7 s (.slice Al s.links.length cl) (.slice As s.sess.length cs') (swith s.sess N)) (Chg [w.heap.size]) rfl rfl rfl
      ?st (RK.start hB7) ?ob ?en
    case st => exact ⟨fun _ _ _ h _ => h, fun _ _ _ h _ => h, fun _ _ _ h hx => h.chg hx (fun k hk _ => .inr (.inl (by simpa using hk))), fun _ _ _ h _ => h, fun _ _ _ h _ => h, fun _ _ _ h _ => h, fun _ _ _ h hx => h.chg hx (fun k hk _ => .inr (.inl (by simpa using hk))), fun _ _ _ h _ => h, fun _ _ _ h _ => h, fun _ _ _ h _ => h, fun _ _ _ h _ => h, trivial⟩
    case ob =>
      refine ⟨Rg.e0 (fun i => Rg.at_runW [3] rfl ?_), ?_⟩
      · intro ρ W hR ⟨q3, _⟩
        replace q3 : ρ 3 = .pointer (some ⟨w.heap.size, 0, none⟩) := q3
        refine ⟨rfl, ?_⟩
        exact Rg.run_ok (v := .pointer (some ⟨w.heap.size, 2, none⟩)) (by simp [execOp, Rg.ev, go_sem, q3]) ⟨rfl, hR, Chg.refl _ _⟩
      refine ⟨Rg.e2 (Rg.at_runW [48] rfl ?_), ?_⟩
      · intro ρ W hR ⟨q48, _⟩
        replace q48 : ρ 48 = .pointer (some ⟨w.heap.size, 2, none⟩) := q48
        refine ⟨rfl, ?_⟩
        have c_ : W.cell? ⟨w.heap.size, 2, none⟩ = some (.slice Al s.links.length cl) := (hR.blk0.cell 2).trans rfl
        exact Rg.run_ok (v := .slice Al s.links.length cl) (by simp [execOp, Rg.ev, go_sem, q48, c_]) ⟨rfl, hR, Chg.refl _ _⟩
      refine ⟨Rg.e0 (fun i => Rg.at_runW [49] rfl ?_), ?_⟩
      · intro ρ W hR ⟨q49, _⟩
        replace q49 : ρ 49 = .slice Al s.links.length cl := q49
        refine ⟨rfl, ?_⟩
        refine Rg.run_enter (by simp [execOp, Rg.ev, go_sem, q49]; exact ⟨⟨rfl, rfl⟩, rfl⟩) ?_
        have hw := hR.ext7 hx7 hb7
        refine (cloneX_ln (X4 X w.heap.size) W (fun k hk => hR.x4 (fun k hk => Nat.lt_of_lt_of_le (hX k hk) hx7.size) h4l hk) (.slice Al s.links.length cl) s.links hll ((s3'.ext hw).mono fun k hk h => x4_ge h)).mono ?_
        rintro e W2 ⟨m, A5, c5, hm5, rfl, hown5, hx5⟩
        have hm' := hm5.out
        subst hm'
        exact ⟨_, rfl, hown5.base hR.size, hR.ext hx5, hx5.chg _⟩
      refine ⟨Rg.e0 (fun i => Rg.at_runW [7] rfl ?_), ?_⟩
      · intro ρ W hR ⟨q7, _⟩
        replace q7 : ρ 7 = .pointer (some ⟨w.heap.size + 4, 0, none⟩) := q7
        refine ⟨rfl, ?_⟩
        exact Rg.run_ok (v := .pointer (some ⟨w.heap.size + 4, 0, none⟩)) (by simp [execOp, Rg.ev, go_sem, q7]) ⟨rfl, hR, Chg.refl _ _⟩
      refine ⟨Rg.e0 (fun i => Rg.at_runW [51] rfl ?_), ?_⟩
      · intro ρ W hR ⟨q51, _⟩
        replace q51 : ρ 51 = .pointer (some ⟨w.heap.size + 4, 0, none⟩) := q51
        refine ⟨rfl, ?_⟩
        have c_ : W.cell? ⟨w.heap.size + 4, 0, none⟩ = some (.slice As s.sess.length cs') := by rw [hR.cell (h7l) (by show w.heap.size + 4 ≠ w.heap.size; omega)]; exact a70
        exact Rg.run_ok (v := .slice As s.sess.length cs') (by simp [execOp, Rg.ev, go_sem, q51, c_]) ⟨rfl, hR, Chg.refl _ _⟩
      refine ⟨Rg.e0 (fun i => Rg.at_runW [8] rfl ?_), ?_⟩
      · intro ρ W hR ⟨q8, _⟩
        replace q8 : ρ 8 = .pointer (some ⟨g8, 0, none⟩) := q8
        refine ⟨rfl, ?_⟩
        have c0_ : W.cell? ⟨g8, 0, none⟩ = some (.int .i64 N.client) := by rw [hR.cell h8l (by show g8 ≠ w.heap.size; omega)]; exact a80
        have c1_ : W.cell? ⟨g8, 1, none⟩ = some (.int .u64 N.high) := by rw [hR.cell h8l (by show g8 ≠ w.heap.size; omega)]; exact a81
        have c2_ : W.cell? ⟨g8, 2, none⟩ = some (.slice A8 N.done.length c8) := by rw [hR.cell h8l (by show g8 ≠ w.heap.size; omega)]; exact a82
        exact Rg.run_ok (v := .agg #[.int .i64 N.client, .int .u64 N.high, .slice A8 N.done.length c8]) (by simp [execOp, Rg.ev, go_sem, q8, c0_, c1_, c2_]) ⟨rfl, hR, Chg.refl _ _⟩
      refine ⟨Rg.e0 (fun i => Rg.at_runW [52, 53] rfl ?_), ?_⟩
      · intro ρ W hR ⟨q52, q53, _⟩
        replace q52 : ρ 52 = .slice As s.sess.length cs' := q52
        replace q53 : ρ 53 = .agg #[.int .i64 N.client, .int .u64 N.high, .slice A8 N.done.length c8] := q53
        refine ⟨rfl, ?_⟩
        refine Rg.run_enter (by simp [execOp, Rg.ev, go_sem, q52, q53]; exact ⟨⟨rfl, rfl⟩, rfl⟩) ?_
        have hw := hR.ext7 hx7 hb7
        refine (with_b (X4 X w.heap.size) W (fun k hk => hR.x4 (fun k hk => Nat.lt_of_lt_of_le (hX k hk) hx7.size) h4l hk) (.slice As s.sess.length cs') s.sess N A8 c8 hls ((s4'.ext hw).mono fun k hk h => x4_ge h) (seE.chg hN7 hR.chg (fun k hk _ => .inr (.inl (by simpa using hk)))) hr).mono ?_
        rintro e W2 ⟨m, A5, c5, hm5, rfl, hown5, hx5⟩
        have hm' := hm5.out
        subst hm'
        exact ⟨_, rfl, hown5.base hR.size, hR.ext hx5, hx5.chg _⟩
      refine ⟨Rg.e0 (fun i => Rg.at_runW [3] rfl ?_), ?_⟩
      · intro ρ W hR ⟨q3, _⟩
        replace q3 : ρ 3 = .pointer (some ⟨w.heap.size, 0, none⟩) := q3
        refine ⟨rfl, ?_⟩
        exact Rg.run_ok (v := .pointer (some ⟨w.heap.size, 2, none⟩)) (by simp [execOp, Rg.ev, go_sem, q3]) ⟨rfl, hR, Chg.refl _ _⟩
      refine ⟨Rg.e1 (Rg.at_runW [55, 50] rfl ?_), ?_⟩
      · intro ρ W hR ⟨q55, q50, _⟩
        replace q55 : ρ 55 = .pointer (some ⟨w.heap.size, 2, none⟩) := q55
        replace q50 : (fun v W => Own 53 lnE W7 W (X4 X w.heap.size) v s.links) (ρ 50) W := q50
        refine ⟨rfl, ?_⟩
        obtain ⟨A5, c5, hv5, -, -⟩ := q50.form
        have z := hR.blk0.frozen 2
        have c_ : W.cell? ⟨w.heap.size, 2, none⟩ = some (.slice Al s.links.length cl) := (hR.blk0.cell 2).trans rfl
        have q5 := q50
        rw [hv5] at q5
        exact Rg.run_skip (W' := W.setCell ⟨w.heap.size, 2, none⟩ (.slice A5 s.links.length c5)) (by simp [execOp, Rg.ev, go_sem, q55, hv5, z, c_]) ⟨rfl, RK.st1 hR q5, (Chg.refl _ _).set (by simp) _⟩
      refine ⟨Rg.e0 (fun i => Rg.at_runW [3] rfl ?_), ?_⟩
      · intro ρ W hR ⟨q3, _⟩
        replace q3 : ρ 3 = .pointer (some ⟨w.heap.size, 0, none⟩) := q3
        refine ⟨rfl, ?_⟩
        exact Rg.run_ok (v := .pointer (some ⟨w.heap.size, 3, none⟩)) (by simp [execOp, Rg.ev, go_sem, q3]) ⟨rfl, hR, Chg.refl _ _⟩
      refine ⟨Rg.e1 (Rg.at_runW [56, 54] rfl ?_), ?_⟩
      · intro ρ W hR ⟨q56, q54, _⟩
        replace q56 : ρ 56 = .pointer (some ⟨w.heap.size, 3, none⟩) := q56
        replace q54 : (fun v W => Own 56 seE W7 W (X4 X w.heap.size) v (swith s.sess N)) (ρ 54) W := q54
        refine ⟨rfl, ?_⟩
        obtain ⟨A5, c5, hv5, -, -⟩ := q54.form
        obtain ⟨u3, z, c_⟩ := hR.at3
        have q5 := q54
        rw [hv5] at q5
        exact Rg.run_skip (W' := W.setCell ⟨w.heap.size, 3, none⟩ (.slice A5 (swith s.sess N).length c5)) (by simp [execOp, Rg.ev, go_sem, q56, hv5, z, c_]) ⟨rfl, RK.st2 hR q5, (Chg.refl _ _).set (by simp) _⟩
      trivial
    case en =>
      intro tm W hR hsz hk
      rw [Rg.fin_eq (ds := [48, 49, 50, 51, 52, 53, 54, 55, 56]) rfl rfl rfl hsz hk]
      have k48 : tm.getD 48 undef = .pointer (some ⟨w.heap.size, 2, none⟩) := hk 48
      have k49 : tm.getD 49 undef = .slice Al s.links.length cl := hk 49
      have k50 : (fun v W => Own 53 lnE W7 W (X4 X w.heap.size) v s.links) (tm.getD 50 undef) W := hk 50
      have k51 : tm.getD 51 undef = .pointer (some ⟨w.heap.size + 4, 0, none⟩) := hk 51
      have k52 : tm.getD 52 undef = .slice As s.sess.length cs' := hk 52
      have k53 : tm.getD 53 undef = .agg #[.int .i64 N.client, .int .u64 N.high, .slice A8 N.done.length c8] := hk 53
      have k54 : (fun v W => Own 56 seE W7 W (X4 X w.heap.size) v (swith s.sess N)) (tm.getD 54 undef) W := hk 54
      have k55 : tm.getD 55 undef = .pointer (some ⟨w.heap.size, 2, none⟩) := hk 55
      have k56 : tm.getD 56 undef = .pointer (some ⟨w.heap.size, 3, none⟩) := hk 56
      clear hk hsz
      simp only [Rg.putAll, List.setIfInBounds_toArray, List.set_cons_zero, List.set_cons_succ, k48, k49, k51, k52, k53, k55, k56]
      clear k48
      clear k49
      generalize tm.getD 50 undef = u50 at *
      clear k51
      clear k52
      clear k53
      generalize tm.getD 54 undef = u54 at *
      clear k55
      clear k56
      refine Rg.nil_list ?_
      obtain ⟨⟨vL, vS, hB8, hL8, hS8⟩, hc8⟩ := hR
      have hx8 : Ext w W := hx7.then_ hc8 (by simp)
      have hR8 := hR7'.chg hc8 (by simp)
      obtain ⟨AL, cL, rfl, -, -⟩ := hL8.form
      obtain ⟨AS, cS, rfl, -, hSm⟩ := hS8.form
      obtain ⟨SS, hSS⟩ : ∃ SS, swith s.sess N = SS := ⟨_, rfl⟩
      rw [hSS] at hB8 hS8
      have HSS := hide hSS
      clear hSS
      unfold maxLen at hSm
      have l3 := (hB8.cell 3).trans rfl
      have hRiL : (swith s.sess N).length ≤ 1001 := by
        unfold swith
        split
        · rw [List.length_set]; omega
        · simp; omega
      rw [HSS.out] at hRiL
      have hDn : ∀ d ∈ SS, d.done.length ≤ 1001 := by
        intro d hd'
        rw [← HSS.out] at hd'
        unfold swith at hd'
        split at hd'
        · rcases List.mem_or_eq_of_mem_set hd' with h | h
          · exact Nat.le_trans (hdl d h) (by omega)
          · rw [h]; exact hNl
        · rcases List.mem_append.1 hd' with h | h
          · exact Nat.le_trans (hdl d (List.mem_of_mem_take h)) (by omega)
          · rcases List.mem_cons.1 h with h | h
            · rw [h]; exact hNl
            · exact Nat.le_trans (hdl d (List.mem_of_mem_drop h)) (by omega)
      go_wp2
      go_loopw [60] (fun i wr => ∃ ja : Nat, ja ≤ SS.length ∧ i = .int .i64 ja ∧ Blk wr w.heap.size 28 #[.int .u64 s.now, .int .u64 s.count, .slice AL s.links.length cL, .slice AS SS.length cS] ∧ Blk wr (w.heap.size + 3) 28 #[.int .u64 0, .int .u64 0, .slice none 0 0, .slice none 0 0] ∧ Own 53 lnE W7 wr (X4 X w.heap.size) (.slice AL s.links.length cL) s.links ∧ Own 56 seE W7 wr (X4 X w.heap.size) (.slice AS SS.length cS) SS ∧ Ext w wr ∧ W7.heap.size ≤ wr.heap.size) (fun i _ => (SS.length - intOf i).toNat)
      case atStart => exact ⟨0, Nat.zero_le _, rfl, hB8, hR8, hL8, hS8, hx8, hc8.size⟩
      case round =>
        obtain ⟨ja, hal, rfl, hBr, hRr, hLr, hSr, hxr, hszr⟩ := hrel
        have hRrl := hRr.lt
        by_cases hlt : ja < SS.length
        · obtain ⟨gs, cap2, cur, css, hv, -, hgs7, -, -, -, -, -, hXg⟩ := hSr.open_ (by omega)
          simp only [Value.slice.injEq, true_and] at hv
          obtain ⟨rfl, rfl⟩ := hv
          obtain ⟨d, v, hds, hgl, p0, p1, p2, p3, p4, p5⟩ := se_own_at hSr (k := ja) hlt
          have hdm := hDn d (List.mem_of_getElem? hds.out)
          obtain ⟨Ad, cd, rfl, -, -⟩ := p5.form
          have hb1 : (0 : Int) ≤ ja := by omega
          have hb2 : (ja : Int) < SS.length := by omega
          have r3_ := (hBr.cell 3).trans rfl
          have hne : w.heap.size ≠ gs := by have := hB7.lt; omega
          have hne3 : w.heap.size + 3 ≠ gs := by omega
          go_wp2
          refine Rg.regionT Tryz.checked.mixed 77 12 (by kernel_rfl) [
            (fun x_ _ => x_ = .pointer (some ⟨w.heap.size, 3, none⟩)),
            (fun x_ _ => x_ = .slice (some ⟨gs, 0, none⟩) SS.length cS),
            (fun x_ _ => x_ = .int .i64 ja),
            (fun x_ _ => x_ = .pointer (some ⟨w.heap.size, 3, none⟩)),
            (fun x_ _ => x_ = .slice (some ⟨gs, 0, none⟩) SS.length cS),
            (fun x_ _ => x_ = .int .i64 ja),
            (fun x_ _ => x_ = .pointer (some ⟨gs, ja * 3, none⟩)),
            (fun x_ _ => x_ = .pointer (some ⟨gs, ja * 3 + 2, none⟩)),
            (fun x_ _ => x_ = .slice Ad d.done.length cd),
            (fun v W => Own 68 dnE wr W (fun k => X4 X w.heap.size k ∨ k = gs) v d.done),
            (fun x_ _ => x_ = .pointer (some ⟨gs, ja * 3, none⟩)),
            (fun x_ _ => x_ = .pointer (some ⟨gs, ja * 3 + 2, none⟩))] (fun W => Ext wr W) Ext rfl rfl rfl
            ?st ((Ext.rfl' wr).drew') ?ob ?en
          case st => exact ⟨fun _ _ _ h _ => h, fun _ _ _ h _ => h, fun _ _ _ h _ => h, fun _ _ _ h _ => h, fun _ _ _ h _ => h, fun _ _ _ h _ => h, fun _ _ _ h _ => h, fun _ _ _ h _ => h, fun _ _ _ h _ => h, fun _ _ _ h hx => h.ext hx, fun _ _ _ h _ => h, fun _ _ _ h _ => h, trivial⟩
          case ob =>
            refine ⟨Rg.at_run [3] rfl ?_, ?_⟩
            · intro ρ W hR ⟨q3, _⟩
              replace q3 : ρ 3 = .pointer (some ⟨w.heap.size, 0, none⟩) := q3
              refine ⟨rfl, ?_⟩
              exact Rg.run_ok (v := .pointer (some ⟨w.heap.size, 3, none⟩)) (by simp [execOp, Rg.ev, go_sem, q3]) ⟨rfl, hR, Ext.rfl' _⟩
            refine ⟨Rg.at_run [63] rfl ?_, ?_⟩
            · intro ρ W hR ⟨q63, _⟩
              replace q63 : ρ 63 = .pointer (some ⟨w.heap.size, 3, none⟩) := q63
              refine ⟨rfl, ?_⟩
              have c3_ : W.cell? ⟨w.heap.size, 3, none⟩ = some (.slice (some ⟨gs, 0, none⟩) SS.length cS) := ((hBr.ext hR).cell 3).trans rfl
              exact Rg.run_ok (v := .slice (some ⟨gs, 0, none⟩) SS.length cS) (by simp [execOp, Rg.ev, go_sem, q63, c3_]) ⟨rfl, hR, Ext.rfl' _⟩
            refine ⟨Rg.at_run [11] rfl ?_, ?_⟩
            · intro ρ W hR ⟨q11, _⟩
              replace q11 : ρ 11 = .int .i64 ja := q11
              refine ⟨rfl, ?_⟩
              exact Rg.run_ok (v := .int .i64 ja) (by simp [execOp, Rg.ev, go_sem, q11]) ⟨rfl, hR, Ext.rfl' _⟩
            refine ⟨Rg.at_run [3] rfl ?_, ?_⟩
            · intro ρ W hR ⟨q3, _⟩
              replace q3 : ρ 3 = .pointer (some ⟨w.heap.size, 0, none⟩) := q3
              refine ⟨rfl, ?_⟩
              exact Rg.run_ok (v := .pointer (some ⟨w.heap.size, 3, none⟩)) (by simp [execOp, Rg.ev, go_sem, q3]) ⟨rfl, hR, Ext.rfl' _⟩
            refine ⟨Rg.at_run [66] rfl ?_, ?_⟩
            · intro ρ W hR ⟨q66, _⟩
              replace q66 : ρ 66 = .pointer (some ⟨w.heap.size, 3, none⟩) := q66
              refine ⟨rfl, ?_⟩
              have c3_ : W.cell? ⟨w.heap.size, 3, none⟩ = some (.slice (some ⟨gs, 0, none⟩) SS.length cS) := ((hBr.ext hR).cell 3).trans rfl
              exact Rg.run_ok (v := .slice (some ⟨gs, 0, none⟩) SS.length cS) (by simp [execOp, Rg.ev, go_sem, q66, c3_]) ⟨rfl, hR, Ext.rfl' _⟩
            refine ⟨Rg.at_run [11] rfl ?_, ?_⟩
            · intro ρ W hR ⟨q11, _⟩
              replace q11 : ρ 11 = .int .i64 ja := q11
              refine ⟨rfl, ?_⟩
              exact Rg.run_ok (v := .int .i64 ja) (by simp [execOp, Rg.ev, go_sem, q11]) ⟨rfl, hR, Ext.rfl' _⟩
            refine ⟨Rg.at_run [67, 68] rfl ?_, ?_⟩
            · intro ρ W hR ⟨q67, q68, _⟩
              replace q67 : ρ 67 = .slice (some ⟨gs, 0, none⟩) SS.length cS := q67
              replace q68 : ρ 68 = .int .i64 ja := q68
              refine ⟨rfl, ?_⟩
              exact Rg.run_ok (v := .pointer (some ⟨gs, ja * 3, none⟩)) (by simp [execOp, Rg.ev, go_sem, q67, q68, hb1, hb2]) ⟨rfl, hR, Ext.rfl' _⟩
            refine ⟨Rg.at_run [69] rfl ?_, ?_⟩
            · intro ρ W hR ⟨q69, _⟩
              replace q69 : ρ 69 = .pointer (some ⟨gs, ja * 3, none⟩) := q69
              refine ⟨rfl, ?_⟩
              exact Rg.run_ok (v := .pointer (some ⟨gs, ja * 3 + 2, none⟩)) (by simp [execOp, Rg.ev, go_sem, q69]) ⟨rfl, hR, Ext.rfl' _⟩
            refine ⟨Rg.at_run [70] rfl ?_, ?_⟩
            · intro ρ W hR ⟨q70, _⟩
              replace q70 : ρ 70 = .pointer (some ⟨gs, ja * 3 + 2, none⟩) := q70
              refine ⟨rfl, ?_⟩
              have c_ : W.cell? ⟨gs, ja * 3 + 2, none⟩ = some (.slice Ad d.done.length cd) := by rw [hR.cell hgl]; exact p2
              exact Rg.run_ok (v := .slice Ad d.done.length cd) (by simp [execOp, Rg.ev, go_sem, q70, c_]) ⟨rfl, hR, Ext.rfl' _⟩
            refine ⟨Rg.at_run [71] rfl ?_, ?_⟩
            · intro ρ W hR ⟨q71, _⟩
              replace q71 : ρ 71 = .slice Ad d.done.length cd := q71
              refine ⟨rfl, ?_⟩
              refine Rg.run_enter (by simp [execOp, Rg.ev, go_sem, q71]; exact ⟨⟨rfl, rfl⟩, rfl⟩) ?_
              refine (cloneX_dn (fun k => X4 X w.heap.size k ∨ k = gs) W (fun k hk => hk.elim (fun h => Nat.lt_of_lt_of_le (x4_lt (fun k hk => Nat.lt_of_lt_of_le (hX k hk) hxr.size) hBr.lt hRrl h) hR.size) fun h => by subst h; exact Nat.lt_of_lt_of_le hgl hR.size) (.slice Ad d.done.length cd) d.done (Nat.le_trans hdm (by decide)) (p5.ext hR)).mono ?_
              rintro e W2 ⟨m, A5, c5, hm5, rfl, hown5, hx5⟩
              have hm' := hm5.out
              subst hm'
              exact ⟨_, rfl, hown5.base hR.size, hR.trans' hx5, hx5⟩
            refine ⟨Rg.at_run [64, 65] rfl ?_, ?_⟩
            · intro ρ W hR ⟨q64, q65, _⟩
              replace q64 : ρ 64 = .slice (some ⟨gs, 0, none⟩) SS.length cS := q64
              replace q65 : ρ 65 = .int .i64 ja := q65
              refine ⟨rfl, ?_⟩
              exact Rg.run_ok (v := .pointer (some ⟨gs, ja * 3, none⟩)) (by simp [execOp, Rg.ev, go_sem, q64, q65, hb1, hb2]) ⟨rfl, hR, Ext.rfl' _⟩
            refine ⟨Rg.at_run [73] rfl ?_, ?_⟩
            · intro ρ W hR ⟨q73, _⟩
              replace q73 : ρ 73 = .pointer (some ⟨gs, ja * 3, none⟩) := q73
              refine ⟨rfl, ?_⟩
              exact Rg.run_ok (v := .pointer (some ⟨gs, ja * 3 + 2, none⟩)) (by simp [execOp, Rg.ev, go_sem, q73]) ⟨rfl, hR, Ext.rfl' _⟩
            trivial
          case en =>
            intro tm W hR hsz hk
            rw [Rg.fin_eq (ds := [63, 64, 65, 66, 67, 68, 69, 70, 71, 72, 73, 74]) rfl rfl rfl hsz hk]
            have k63 : tm.getD 63 undef = .pointer (some ⟨w.heap.size, 3, none⟩) := hk 63
            have k64 : tm.getD 64 undef = .slice (some ⟨gs, 0, none⟩) SS.length cS := hk 64
            have k65 : tm.getD 65 undef = .int .i64 ja := hk 65
            have k66 : tm.getD 66 undef = .pointer (some ⟨w.heap.size, 3, none⟩) := hk 66
            have k67 : tm.getD 67 undef = .slice (some ⟨gs, 0, none⟩) SS.length cS := hk 67
            have k68 : tm.getD 68 undef = .int .i64 ja := hk 68
            have k69 : tm.getD 69 undef = .pointer (some ⟨gs, ja * 3, none⟩) := hk 69
            have k70 : tm.getD 70 undef = .pointer (some ⟨gs, ja * 3 + 2, none⟩) := hk 70
            have k71 : tm.getD 71 undef = .slice Ad d.done.length cd := hk 71
            have k72 : (fun v W => Own 68 dnE wr W (fun k => X4 X w.heap.size k ∨ k = gs) v d.done) (tm.getD 72 undef) W := hk 72
            have k73 : tm.getD 73 undef = .pointer (some ⟨gs, ja * 3, none⟩) := hk 73
            have k74 : tm.getD 74 undef = .pointer (some ⟨gs, ja * 3 + 2, none⟩) := hk 74
            clear hk hsz
            simp only [Rg.putAll, List.setIfInBounds_toArray, List.set_cons_zero, List.set_cons_succ, k63, k64, k65, k66, k67, k68, k69, k70, k71, k73, k74]
            clear k63
            clear k64
            clear k65
            clear k66
            clear k67
            clear k68
            clear k69
            clear k70
            clear k71
            generalize tm.getD 72 undef = u72 at *
            clear k73
            clear k74
            obtain ⟨A9, c9, hv9, -, -⟩ := k72.form
            subst hv9
            have hgW := Nat.lt_of_lt_of_le hgl hR.size
            have f2 : W.frozen? ⟨gs, ja * 3 + 2, none⟩ = false := by
              obtain ⟨cur', css', b1, -⟩ := (hSr.ext hR).blk (by omega)
              exact b1.frozen _
            have p2W : W.cell? ⟨gs, ja * 3 + 2, none⟩ = some (.slice Ad d.done.length cd) := by rw [hR.cell hgl]; exact p2
            have p0W : W.cell? ⟨gs, ja * 3, none⟩ = some (.int .i64 d.client) := by rw [hR.cell hgl]; exact p0
            have p1W : W.cell? ⟨gs, ja * 3 + 1, none⟩ = some (.int .u64 d.high) := by rw [hR.cell hgl]; exact p1
            have hS9 : Own 56 seE W7 (W.setCell ⟨gs, ja * 3 + 2, none⟩ (.slice A9 d.done.length c9)) (X4 X w.heap.size) (.slice (some ⟨gs, 0, none⟩) SS.length cS) SS := by
              have h := Own.third (hSr.ext hR) rfl hlt (a := d) (v := .slice A9 d.done.length c9) p0W p1W (se_rep.2 ⟨.slice A9 d.done.length c9, rfl, p3, p4, k72.sl⟩)
              rw [set_same SS ja d hds.out] at h
              exact h
            have hcg9 : Chg [gs] W (W.setCell ⟨gs, ja * 3 + 2, none⟩ (.slice A9 d.done.length c9)) := (Chg.refl _ _).set (by simp) _
            go_wp2
            go_roundw
            case rel =>
              obtain ⟨cu, hcu⟩ : ∃ cu, Blk W gs 56 cu := by
                obtain ⟨cur', css', b1, -⟩ := (hSr.ext hR).blk (by omega)
                exact ⟨cur', b1⟩
              refine ⟨ja + 1, hlt, by first | rfl | go_num, (hBr.ext hR).chg hcg9 (by simpa using hne), (hRr.ext hR).chg hcg9 (by simpa using hne3), (hLr.ext hR).chgT hcu (by decide) hcg9 (fun h => ln_rep.2 (ln_rep.1 h)), hS9, (hxr.trans' hR).then_ hcg9 (by simp; omega), ?_⟩
              exact Nat.le_trans hszr (Nat.le_trans hR.size hcg9.size)
            case measure => simp [intOf]; omega
        · obtain rfl : ja = SS.length := by omega
          have b0 := (hBr.cell 0).trans rfl
          have b1 := (hBr.cell 1).trans rfl
          have b2 := (hBr.cell 2).trans rfl
          have b3 := (hBr.cell 3).trans rfl
          have e0 := (hRr.cell 0).trans rfl
          have e1 := (hRr.cell 1).trans rfl
          have e2 := (hRr.cell 2).trans rfl
          have e3 := (hRr.cell 3).trans rfl
          have f0 := hRr.frozen 0
          have f1 := hRr.frozen 1
          have f2 := hRr.frozen 2
          have f3 := hRr.frozen 3
          go_wp2
          try simp only [Exit.inBlock, Exit.then]
          obtain ⟨hfin, hcf⟩ := put4 hRr (.int .u64 s.now) (.int .u64 s.count) (.slice AL s.links.length cL) (.slice AS SS.length cS)
          refine bodyPost_ret (results_cell_row rfl _ _ (w.heap.size + 3) 28 #[.int .u64 s.now, .int .u64 s.count, .slice AL s.links.length cL, .slice AS SS.length cS] (0, 0) _ rfl hfin Tryz.underlying28 rfl (by kernel_rfl)) rfl ?_
          rw [HSS.out]
          have hW7w : w.heap.size ≤ W7.heap.size := by omega
          have hFL := Own.fresh (hLr.chg hcf (fun k hk _ => .inr (.inr (by simpa using hk))))
          have hFS := Own.fresh (hSr.chg hcf (fun k hk _ => .inr (.inr (by simpa using hk))))
          exact ⟨AL, cL, AS, cS, rfl, st_rep.2 ⟨_, _, rfl, s1, s2, (hLr.chg hcf (fun k hk _ => .inr (.inr (by simpa using hk)))).sl.mono fun k _ h => .inl h, (hSr.chg hcf (fun k hk _ => .inr (.inr (by simpa using hk)))).sl.mono fun k _ h => .inl h⟩, Fresh.base hFL hW7w, Fresh.base hFS hW7w, hxr.then_ hcf (by simp)⟩
  · have hmx2 : S.high < seq := by omega
    have HM : Hid (max S.high seq = seq) := by unfold Hid; omega
    have hH : U64 seq := ⟨by have := r2.1; omega, by have := r2.2; omega⟩
    clear hB2 hC2 hA2 hR2 hZ2 hx2 r3d
    have hO2 := Blk.new W1 56 #[.int .i64 S.client, .int .u64 seq, .slice Av S.done.length cv']
    rw [hg8] at hO2
    have hB2 := (hB1.ext hx1).alloc (.cells #[.int .i64 S.client, .int .u64 seq, .slice Av S.done.length cv'] 56)
    have hC2 := (hC1.ext hx1).alloc (.cells #[.int .i64 S.client, .int .u64 seq, .slice Av S.done.length cv'] 56)
    have hA2 := (hA1.ext hx1).alloc (.cells #[.int .i64 S.client, .int .u64 seq, .slice Av S.done.length cv'] 56)
    have hR2 := (hR1.ext hx1).alloc (.cells #[.int .i64 S.client, .int .u64 seq, .slice Av S.done.length cv'] 56)
    have hZ2 := (hZ.ext hx1).alloc (.cells #[.int .i64 S.client, .int .u64 seq, .slice Av S.done.length cv'] 56)
    have hxw2 := (hxz.trans' hx1).alloc' (.cells #[.int .i64 S.client, .int .u64 seq, .slice Av S.done.length cv'] 56)
    have r3d := r3.ext ((Ext.rfl' W1).alloc' (.cells #[.int .i64 S.client, .int .u64 seq, .slice Av S.done.length cv'] 56))
    have hg82 : g8 < (W1.alloc (.cells #[.int .i64 S.client, .int .u64 seq, .slice Av S.done.length cv'] 56)).heap.size := hO2.lt
    go_wp2_with fail
    refine (clone_dn (.slice Av S.done.length cv') S.done _ (by omega) (slN r3d)).mono ?_
    rintro e W3 ⟨m3, A3, c3, hm3, rfl, hown3, hx3⟩
    have hm3' := hm3.out.symm
    subst hm3'
    have k2 := ((hC2.ext hx3).cell 2).trans rfl
    have k3 := ((hO2.ext hx3).cell 1).trans rfl
    go_wp2_with fail
    refine (delDn_b (fun d => decide (d.seq = seq) || stale d.seq seq) (.pointer (some ⟨w.heap.size + 1, 0, none⟩)) (.pointer (some ⟨g8, 0, none⟩)) (.slice A3 S.done.length c3) S.done _ W3 (by omega) hown3 hx3
      (fun W d hW hd => keep1_b d (w.heap.size + 1) g8 seq seq W hd ⟨q0, q1⟩ hH (hC2.ext hW).lt (hO2.ext hW).lt (((hC2.ext hW).cell 2).trans rfl) (((hO2.ext hW).cell 1).trans rfl))).mono ?_
    rintro e W4 ⟨m4, A4, c4, hm4, rfl, hown4, hx4⟩
    have hx34 := hx4
    have hl4 : m4.length ≤ 1000 := by rw [hm4.out]; exact Nat.le_trans (List.length_filter_le _ _) hSd.2
    have hO4 := hO2.ext hx34
    have j2 := (hO4.cell 2).trans rfl
    have jf := hO4.frozen 2
    have k4 := ((hC2.ext hx34).cell 2).trans rfl
    have hs4 : Chg [g8] W4 (W4.setCell ⟨g8, 2, none⟩ (.slice A4 m4.length c4)) := (Chg.refl _ _).set (by simp) _
    have hne1 : w.heap.size + 1 ∉ [g8] := by simp; omega
    have hown5 := (hown4.widen (Y := fun k => k = g8) (fun h => dn_widen h) (fun k hk => by subst hk; exact hg82)).chg hs4 (fun k hk _ => by simpa using hk)
    go_wp2_with fail
    refine (searchDn_b (.slice A4 m4.length c4) m4 seq _ (by omega) (slN hown5.sl) ⟨q0, q1⟩ (by have := (hSd.1.filter (fun d => !(decide (d.seq = seq) || stale d.seq seq))).mono seq; rw [← hm4.out] at this; exact this)).mono ?_
    rintro e W6 ⟨rfl, hx6⟩
    obtain ⟨i, hi⟩ : ∃ i, cntP (fun s : Dn => decide (s.seq < seq)) m4 = i := ⟨_, rfl⟩
    rw [hi]
    have HI := hide hi
    have hil : i ≤ m4.length := by rw [← hi]; exact cntP_le _ _
    clear hi
    have hx56 : Ext (W1.alloc (.cells #[.int .i64 S.client, .int .u64 seq, .slice Av S.done.length cv'] 56)) W4 := hx34
    have hC6 := ((hC2.ext hx34).chg hs4 hne1).ext hx6
    have hA6 := ((hA2.ext hx34).chg hs4 (by simp; omega)).ext hx6
    have hB6 := ((hB2.ext hx34).chg hs4 (by simp; omega)).ext hx6
    have hR6 := ((hR2.ext hx34).chg hs4 (by simp; omega)).ext hx6
    have hZ6 := ((hZ2.ext hx34).chg hs4 (by simp; omega)).ext hx6
    have hO6 := (hO4.set_ 2 (.slice A4 m4.length c4)).ext hx6
    have hown6 := hown5.ext hx6
    have k6 := (hC6.cell 2).trans rfl
    have a6 := (hA6.cell 0).trans rfl
    have a6' := (hA6.cell 1).trans rfl
    have j6 := (hO6.cell 2).trans rfl
    have hxw6 : Ext w W6 := ((hxw2.trans' hx34).then_ hs4 (by simp; omega)).trans' hx6
    obtain ⟨gv, hgv⟩ : ∃ g, W6.heap.size = g := ⟨_, rfl⟩
    have hn := Blk.new W6 68 (dcells ⟨seq, a⟩).toArray
    rw [hgv] at hn
    have hxn : Ext W6 (W6.alloc (.cells (dcells ⟨seq, a⟩).toArray 68)) := (Ext.rfl' W6).alloc' _
    have hC8 : Chg [g8] (W1.alloc (.cells #[.int .i64 S.client, .int .u64 seq, .slice Av S.done.length cv'] 56)) W6 := ((hx34.chg _).trans hs4).trans (hx6.chg _)
    go_wp2_with fail
    have hOn := hO6.ext hxn
    have hle : g8 + 1 ≤ (W6.alloc (.cells (dcells ⟨seq, a⟩).toArray 68)).heap.size := hOn.lt
    have hg8v : g8 < gv := by have := hO6.lt; omega
    have hBn := (hB6.ext hxn).cutW hle (by omega)
    have hCn := (hC6.ext hxn).cutW hle (by omega)
    have hRn := (hR6.ext hxn).cutW hle (by omega)
    have hZn := (hZ6.ext hxn).cutW hle (by omega)
    have hOc := hOn.cutW hle (by omega)
    have hxc := (hxw6.trans' hxn).cutW hle (by omega)
    have hownc : Own 68 dnE (cutW (W6.alloc (.cells (dcells ⟨seq, a⟩).toArray 68)) (g8 + 1)) (W6.alloc (.cells (dcells ⟨seq, a⟩).toArray 68)) (fun k => k = g8) (.slice A4 m4.length c4) m4 := (hown6.ext hxn).base (by rw [cutW_size hle]; simp; omega)
    refine (insXDn_b (fun k => k = g8) _ _ (fun k hk => by subst hk; exact hOn.lt) (.slice A4 m4.length c4) m4 i gv ⟨seq, a⟩ (by omega) hil hownc (cutW_ext hle) (dcells ⟨seq, a⟩) hn (fun k hk h => by have := (hown6.lt k hk).2; omega) (fun h => by omega) (dn_rep.2 ⟨rfl, ⟨q0, q1⟩, ha.1, ha.2⟩)).mono ?_
    rintro e W7' ⟨m7, A7, c7, hm7, rfl, hown7, hx7'⟩
    have hl7 : m7.length ≤ 1001 := by rw [hm7.out]; simp; omega
    have hNe : N = ⟨S.client, seq, m7⟩ := by
      rw [← HN.out, hm7.out, hm4.out]
      unfold skeep dput
      rw [HM.out]
      have h1 := HI.out
      rw [hm4.out] at h1
      simp only [h1]
    have hO7 := hOc.ext hx7'
    have j7 := (hO7.cell 2).trans rfl
    have jf7 := hO7.frozen 2
    have hs7 : Chg [g8] W7' (W7'.setCell ⟨g8, 2, none⟩ (.slice A7 m7.length c7)) := (Chg.refl _ _).set (by simp) _
    have hB7' := (hBn.ext hx7').chg hs7 (by simp; omega)
    have hR7' := (hRn.ext hx7').chg hs7 (by simp; omega)
    have hZ7' := (hZn.ext hx7').chg hs7 (by simp; omega)
    have hO7' := hO7.set_ 2 (.slice A7 m7.length c7)
    have hown7' := (hown7.widen (Y := fun k => k ≤ g8) (fun h => dn_widen h) (fun k hk => by rw [cutW_size hle]; omega)).chg hs7 (fun k hk _ => by simp at hk; subst hk; exact Nat.le_refl _)
    have hx7w := (hxc.trans' hx7').then_ hs7 (by simp; omega)
    go_wp2
    obtain ⟨W7, hW7⟩ : ∃ W, W = W7'.setCell ⟨g8, 2, none⟩ (.slice A7 m7.length c7) := ⟨_, rfl⟩
    rw [← hW7] at hB7' hR7' hZ7' hO7' hown7' hx7w
    try rw [← hW7]
    have hx7 := hx7w
    have hB7 : Blk W7 w.heap.size 28 #[.int .u64 s.now, .int .u64 s.count, .slice Al s.links.length cl, .slice As s.sess.length cs'] := hB7'
    have hb7 : w.heap.size ≤ w.heap.size := Nat.le_refl _
    have h7l : w.heap.size + 4 < W7.heap.size := hZ7'.lt
    have h8l : g8 < W7.heap.size := hO7'.lt
    have h4l : w.heap.size + 3 < W7.heap.size := hR7'.lt
    have a70 : W7.cell? ⟨w.heap.size + 4, 0, none⟩ = some (.slice As s.sess.length cs') := (hZ7'.cell 0).trans rfl
    have hls : s.sess.length ≤ 90000 := by omega
    obtain ⟨A8, c8, hN7, a80, a81, a82⟩ : ∃ A8 c8, seE.rep W7 (X4 X w.heap.size) (secells N (.slice A8 N.done.length c8)) N ∧ W7.cell? ⟨g8, 0, none⟩ = some (.int .i64 N.client) ∧ W7.cell? ⟨g8, 1, none⟩ = some (.int .u64 N.high) ∧ W7.cell? ⟨g8, 2, none⟩ = some (.slice A8 N.done.length c8) := by
      rw [hNe]
      exact ⟨A7, c7, se_rep.2 ⟨_, rfl, r1, hH, hown7'.sl.mono fun k _ hk => by
        rcases hk with hk | rfl | rfl
        · have h1 := hX k hk; omega
        · omega
        · omega⟩, (hO7'.cell 0).trans rfl, (hO7'.cell 1).trans rfl, (hO7'.cell 2).trans rfl⟩
    have HNe := hide hNe
    have hNl : N.done.length ≤ 1001 := by rw [hNe]; exact hl7
    clear hNe hW7 hO7' hZ7' hown7' hB7' hO7 hown7 hxc hOc hZn hRn hCn hBn hownc hs7 hOn hn hxn j7 jf7 hm7 hx7'
    refine Rg.regionE Tryz.checked.mixed 77 11 (by kernel_rfl) [
      ((false, false), (fun x_ _ => x_ = .pointer (some ⟨w.heap.size, 2, none⟩))),
      ((false, true), (fun x_ _ => x_ = .slice Al s.links.length cl)),
      ((false, false), (fun v W => Own 53 lnE W7 W (X4 X w.heap.size) v s.links)),
      ((false, false), (fun x_ _ => x_ = .pointer (some ⟨w.heap.size + 4, 0, none⟩))),
      ((false, false), (fun x_ _ => x_ = .slice As s.sess.length cs')),
      ((false, false), (fun x_ _ => x_ = .agg #[.int .i64 N.client, .int .u64 N.high, .slice A8 N.done.length c8])),
      ((false, false), (fun v W => Own 56 seE W7 W (X4 X w.heap.size) v (swith s.sess N))),
      ((false, false), (fun x_ _ => x_ = .pointer (some ⟨w.heap.size, 2, none⟩))),
      ((true, false), (fun x_ _ => x_ = undef)),
      ((false, false), (fun x_ _ => x_ = .pointer (some ⟨w.heap.size, 3, none⟩))),
      ((true, false), (fun x_ _ => x_ = undef))] (by kernel_rfl) (RK X w.heap.size W7 s (.slice Al s.links.length cl) (.slice As s.sess.length cs') (swith s.sess N)) (Chg [w.heap.size]) rfl rfl rfl
      ?st (RK.start hB7) ?ob ?en
    case st => exact ⟨fun _ _ _ h _ => h, fun _ _ _ h _ => h, fun _ _ _ h hx => h.chg hx (fun k hk _ => .inr (.inl (by simpa using hk))), fun _ _ _ h _ => h, fun _ _ _ h _ => h, fun _ _ _ h _ => h, fun _ _ _ h hx => h.chg hx (fun k hk _ => .inr (.inl (by simpa using hk))), fun _ _ _ h _ => h, fun _ _ _ h _ => h, fun _ _ _ h _ => h, fun _ _ _ h _ => h, trivial⟩
    case ob =>
      refine ⟨Rg.e0 (fun i => Rg.at_runW [3] rfl ?_), ?_⟩
      · intro ρ W hR ⟨q3, _⟩
        replace q3 : ρ 3 = .pointer (some ⟨w.heap.size, 0, none⟩) := q3
        refine ⟨rfl, ?_⟩
        exact Rg.run_ok (v := .pointer (some ⟨w.heap.size, 2, none⟩)) (by simp [execOp, Rg.ev, go_sem, q3]) ⟨rfl, hR, Chg.refl _ _⟩
      refine ⟨Rg.e2 (Rg.at_runW [48] rfl ?_), ?_⟩
      · intro ρ W hR ⟨q48, _⟩
        replace q48 : ρ 48 = .pointer (some ⟨w.heap.size, 2, none⟩) := q48
        refine ⟨rfl, ?_⟩
        have c_ : W.cell? ⟨w.heap.size, 2, none⟩ = some (.slice Al s.links.length cl) := (hR.blk0.cell 2).trans rfl
        exact Rg.run_ok (v := .slice Al s.links.length cl) (by simp [execOp, Rg.ev, go_sem, q48, c_]) ⟨rfl, hR, Chg.refl _ _⟩
      refine ⟨Rg.e0 (fun i => Rg.at_runW [49] rfl ?_), ?_⟩
      · intro ρ W hR ⟨q49, _⟩
        replace q49 : ρ 49 = .slice Al s.links.length cl := q49
        refine ⟨rfl, ?_⟩
        refine Rg.run_enter (by simp [execOp, Rg.ev, go_sem, q49]; exact ⟨⟨rfl, rfl⟩, rfl⟩) ?_
        have hw := hR.ext7 hx7 hb7
        refine (cloneX_ln (X4 X w.heap.size) W (fun k hk => hR.x4 (fun k hk => Nat.lt_of_lt_of_le (hX k hk) hx7.size) h4l hk) (.slice Al s.links.length cl) s.links hll ((s3'.ext hw).mono fun k hk h => x4_ge h)).mono ?_
        rintro e W2 ⟨m, A5, c5, hm5, rfl, hown5, hx5⟩
        have hm' := hm5.out
        subst hm'
        exact ⟨_, rfl, hown5.base hR.size, hR.ext hx5, hx5.chg _⟩
      refine ⟨Rg.e0 (fun i => Rg.at_runW [7] rfl ?_), ?_⟩
      · intro ρ W hR ⟨q7, _⟩
        replace q7 : ρ 7 = .pointer (some ⟨w.heap.size + 4, 0, none⟩) := q7
        refine ⟨rfl, ?_⟩
        exact Rg.run_ok (v := .pointer (some ⟨w.heap.size + 4, 0, none⟩)) (by simp [execOp, Rg.ev, go_sem, q7]) ⟨rfl, hR, Chg.refl _ _⟩
      refine ⟨Rg.e0 (fun i => Rg.at_runW [51] rfl ?_), ?_⟩
      · intro ρ W hR ⟨q51, _⟩
        replace q51 : ρ 51 = .pointer (some ⟨w.heap.size + 4, 0, none⟩) := q51
        refine ⟨rfl, ?_⟩
        have c_ : W.cell? ⟨w.heap.size + 4, 0, none⟩ = some (.slice As s.sess.length cs') := by rw [hR.cell (h7l) (by show w.heap.size + 4 ≠ w.heap.size; omega)]; exact a70
        exact Rg.run_ok (v := .slice As s.sess.length cs') (by simp [execOp, Rg.ev, go_sem, q51, c_]) ⟨rfl, hR, Chg.refl _ _⟩
      refine ⟨Rg.e0 (fun i => Rg.at_runW [8] rfl ?_), ?_⟩
      · intro ρ W hR ⟨q8, _⟩
        replace q8 : ρ 8 = .pointer (some ⟨g8, 0, none⟩) := q8
        refine ⟨rfl, ?_⟩
        have c0_ : W.cell? ⟨g8, 0, none⟩ = some (.int .i64 N.client) := by rw [hR.cell h8l (by show g8 ≠ w.heap.size; omega)]; exact a80
        have c1_ : W.cell? ⟨g8, 1, none⟩ = some (.int .u64 N.high) := by rw [hR.cell h8l (by show g8 ≠ w.heap.size; omega)]; exact a81
        have c2_ : W.cell? ⟨g8, 2, none⟩ = some (.slice A8 N.done.length c8) := by rw [hR.cell h8l (by show g8 ≠ w.heap.size; omega)]; exact a82
        exact Rg.run_ok (v := .agg #[.int .i64 N.client, .int .u64 N.high, .slice A8 N.done.length c8]) (by simp [execOp, Rg.ev, go_sem, q8, c0_, c1_, c2_]) ⟨rfl, hR, Chg.refl _ _⟩
      refine ⟨Rg.e0 (fun i => Rg.at_runW [52, 53] rfl ?_), ?_⟩
      · intro ρ W hR ⟨q52, q53, _⟩
        replace q52 : ρ 52 = .slice As s.sess.length cs' := q52
        replace q53 : ρ 53 = .agg #[.int .i64 N.client, .int .u64 N.high, .slice A8 N.done.length c8] := q53
        refine ⟨rfl, ?_⟩
        refine Rg.run_enter (by simp [execOp, Rg.ev, go_sem, q52, q53]; exact ⟨⟨rfl, rfl⟩, rfl⟩) ?_
        have hw := hR.ext7 hx7 hb7
        refine (with_b (X4 X w.heap.size) W (fun k hk => hR.x4 (fun k hk => Nat.lt_of_lt_of_le (hX k hk) hx7.size) h4l hk) (.slice As s.sess.length cs') s.sess N A8 c8 hls ((s4'.ext hw).mono fun k hk h => x4_ge h) (seE.chg hN7 hR.chg (fun k hk _ => .inr (.inl (by simpa using hk)))) hr).mono ?_
        rintro e W2 ⟨m, A5, c5, hm5, rfl, hown5, hx5⟩
        have hm' := hm5.out
        subst hm'
        exact ⟨_, rfl, hown5.base hR.size, hR.ext hx5, hx5.chg _⟩
      refine ⟨Rg.e0 (fun i => Rg.at_runW [3] rfl ?_), ?_⟩
      · intro ρ W hR ⟨q3, _⟩
        replace q3 : ρ 3 = .pointer (some ⟨w.heap.size, 0, none⟩) := q3
        refine ⟨rfl, ?_⟩
        exact Rg.run_ok (v := .pointer (some ⟨w.heap.size, 2, none⟩)) (by simp [execOp, Rg.ev, go_sem, q3]) ⟨rfl, hR, Chg.refl _ _⟩
      refine ⟨Rg.e1 (Rg.at_runW [55, 50] rfl ?_), ?_⟩
      · intro ρ W hR ⟨q55, q50, _⟩
        replace q55 : ρ 55 = .pointer (some ⟨w.heap.size, 2, none⟩) := q55
        replace q50 : (fun v W => Own 53 lnE W7 W (X4 X w.heap.size) v s.links) (ρ 50) W := q50
        refine ⟨rfl, ?_⟩
        obtain ⟨A5, c5, hv5, -, -⟩ := q50.form
        have z := hR.blk0.frozen 2
        have c_ : W.cell? ⟨w.heap.size, 2, none⟩ = some (.slice Al s.links.length cl) := (hR.blk0.cell 2).trans rfl
        have q5 := q50
        rw [hv5] at q5
        exact Rg.run_skip (W' := W.setCell ⟨w.heap.size, 2, none⟩ (.slice A5 s.links.length c5)) (by simp [execOp, Rg.ev, go_sem, q55, hv5, z, c_]) ⟨rfl, RK.st1 hR q5, (Chg.refl _ _).set (by simp) _⟩
      refine ⟨Rg.e0 (fun i => Rg.at_runW [3] rfl ?_), ?_⟩
      · intro ρ W hR ⟨q3, _⟩
        replace q3 : ρ 3 = .pointer (some ⟨w.heap.size, 0, none⟩) := q3
        refine ⟨rfl, ?_⟩
        exact Rg.run_ok (v := .pointer (some ⟨w.heap.size, 3, none⟩)) (by simp [execOp, Rg.ev, go_sem, q3]) ⟨rfl, hR, Chg.refl _ _⟩
      refine ⟨Rg.e1 (Rg.at_runW [56, 54] rfl ?_), ?_⟩
      · intro ρ W hR ⟨q56, q54, _⟩
        replace q56 : ρ 56 = .pointer (some ⟨w.heap.size, 3, none⟩) := q56
        replace q54 : (fun v W => Own 56 seE W7 W (X4 X w.heap.size) v (swith s.sess N)) (ρ 54) W := q54
        refine ⟨rfl, ?_⟩
        obtain ⟨A5, c5, hv5, -, -⟩ := q54.form
        obtain ⟨u3, z, c_⟩ := hR.at3
        have q5 := q54
        rw [hv5] at q5
        exact Rg.run_skip (W' := W.setCell ⟨w.heap.size, 3, none⟩ (.slice A5 (swith s.sess N).length c5)) (by simp [execOp, Rg.ev, go_sem, q56, hv5, z, c_]) ⟨rfl, RK.st2 hR q5, (Chg.refl _ _).set (by simp) _⟩
      trivial
    case en =>
      intro tm W hR hsz hk
      rw [Rg.fin_eq (ds := [48, 49, 50, 51, 52, 53, 54, 55, 56]) rfl rfl rfl hsz hk]
      have k48 : tm.getD 48 undef = .pointer (some ⟨w.heap.size, 2, none⟩) := hk 48
      have k49 : tm.getD 49 undef = .slice Al s.links.length cl := hk 49
      have k50 : (fun v W => Own 53 lnE W7 W (X4 X w.heap.size) v s.links) (tm.getD 50 undef) W := hk 50
      have k51 : tm.getD 51 undef = .pointer (some ⟨w.heap.size + 4, 0, none⟩) := hk 51
      have k52 : tm.getD 52 undef = .slice As s.sess.length cs' := hk 52
      have k53 : tm.getD 53 undef = .agg #[.int .i64 N.client, .int .u64 N.high, .slice A8 N.done.length c8] := hk 53
      have k54 : (fun v W => Own 56 seE W7 W (X4 X w.heap.size) v (swith s.sess N)) (tm.getD 54 undef) W := hk 54
      have k55 : tm.getD 55 undef = .pointer (some ⟨w.heap.size, 2, none⟩) := hk 55
      have k56 : tm.getD 56 undef = .pointer (some ⟨w.heap.size, 3, none⟩) := hk 56
      clear hk hsz
      simp only [Rg.putAll, List.setIfInBounds_toArray, List.set_cons_zero, List.set_cons_succ, k48, k49, k51, k52, k53, k55, k56]
      clear k48
      clear k49
      generalize tm.getD 50 undef = u50 at *
      clear k51
      clear k52
      clear k53
      generalize tm.getD 54 undef = u54 at *
      clear k55
      clear k56
      refine Rg.nil_list ?_
      obtain ⟨⟨vL, vS, hB8, hL8, hS8⟩, hc8⟩ := hR
      have hx8 : Ext w W := hx7.then_ hc8 (by simp)
      have hR8 := hR7'.chg hc8 (by simp)
      obtain ⟨AL, cL, rfl, -, -⟩ := hL8.form
      obtain ⟨AS, cS, rfl, -, hSm⟩ := hS8.form
      obtain ⟨SS, hSS⟩ : ∃ SS, swith s.sess N = SS := ⟨_, rfl⟩
      rw [hSS] at hB8 hS8
      have HSS := hide hSS
      clear hSS
      unfold maxLen at hSm
      have l3 := (hB8.cell 3).trans rfl
      have hRiL : (swith s.sess N).length ≤ 1001 := by
        unfold swith
        split
        · rw [List.length_set]; omega
        · simp; omega
      rw [HSS.out] at hRiL
      have hDn : ∀ d ∈ SS, d.done.length ≤ 1001 := by
        intro d hd'
        rw [← HSS.out] at hd'
        unfold swith at hd'
        split at hd'
        · rcases List.mem_or_eq_of_mem_set hd' with h | h
          · exact Nat.le_trans (hdl d h) (by omega)
          · rw [h]; exact hNl
        · rcases List.mem_append.1 hd' with h | h
          · exact Nat.le_trans (hdl d (List.mem_of_mem_take h)) (by omega)
          · rcases List.mem_cons.1 h with h | h
            · rw [h]; exact hNl
            · exact Nat.le_trans (hdl d (List.mem_of_mem_drop h)) (by omega)
      go_wp2
      go_loopw [60] (fun i wr => ∃ ja : Nat, ja ≤ SS.length ∧ i = .int .i64 ja ∧ Blk wr w.heap.size 28 #[.int .u64 s.now, .int .u64 s.count, .slice AL s.links.length cL, .slice AS SS.length cS] ∧ Blk wr (w.heap.size + 3) 28 #[.int .u64 0, .int .u64 0, .slice none 0 0, .slice none 0 0] ∧ Own 53 lnE W7 wr (X4 X w.heap.size) (.slice AL s.links.length cL) s.links ∧ Own 56 seE W7 wr (X4 X w.heap.size) (.slice AS SS.length cS) SS ∧ Ext w wr ∧ W7.heap.size ≤ wr.heap.size) (fun i _ => (SS.length - intOf i).toNat)
      case atStart => exact ⟨0, Nat.zero_le _, rfl, hB8, hR8, hL8, hS8, hx8, hc8.size⟩
      case round =>
        obtain ⟨ja, hal, rfl, hBr, hRr, hLr, hSr, hxr, hszr⟩ := hrel
        have hRrl := hRr.lt
        by_cases hlt : ja < SS.length
        · obtain ⟨gs, cap2, cur, css, hv, -, hgs7, -, -, -, -, -, hXg⟩ := hSr.open_ (by omega)
          simp only [Value.slice.injEq, true_and] at hv
          obtain ⟨rfl, rfl⟩ := hv
          obtain ⟨d, v, hds, hgl, p0, p1, p2, p3, p4, p5⟩ := se_own_at hSr (k := ja) hlt
          have hdm := hDn d (List.mem_of_getElem? hds.out)
          obtain ⟨Ad, cd, rfl, -, -⟩ := p5.form
          have hb1 : (0 : Int) ≤ ja := by omega
          have hb2 : (ja : Int) < SS.length := by omega
          have r3_ := (hBr.cell 3).trans rfl
          have hne : w.heap.size ≠ gs := by have := hB7.lt; omega
          have hne3 : w.heap.size + 3 ≠ gs := by omega
          go_wp2
          refine Rg.regionT Tryz.checked.mixed 77 12 (by kernel_rfl) [
            (fun x_ _ => x_ = .pointer (some ⟨w.heap.size, 3, none⟩)),
            (fun x_ _ => x_ = .slice (some ⟨gs, 0, none⟩) SS.length cS),
            (fun x_ _ => x_ = .int .i64 ja),
            (fun x_ _ => x_ = .pointer (some ⟨w.heap.size, 3, none⟩)),
            (fun x_ _ => x_ = .slice (some ⟨gs, 0, none⟩) SS.length cS),
            (fun x_ _ => x_ = .int .i64 ja),
            (fun x_ _ => x_ = .pointer (some ⟨gs, ja * 3, none⟩)),
            (fun x_ _ => x_ = .pointer (some ⟨gs, ja * 3 + 2, none⟩)),
            (fun x_ _ => x_ = .slice Ad d.done.length cd),
            (fun v W => Own 68 dnE wr W (fun k => X4 X w.heap.size k ∨ k = gs) v d.done),
            (fun x_ _ => x_ = .pointer (some ⟨gs, ja * 3, none⟩)),
            (fun x_ _ => x_ = .pointer (some ⟨gs, ja * 3 + 2, none⟩))] (fun W => Ext wr W) Ext rfl rfl rfl
            ?st ((Ext.rfl' wr).drew') ?ob ?en
          case st => exact ⟨fun _ _ _ h _ => h, fun _ _ _ h _ => h, fun _ _ _ h _ => h, fun _ _ _ h _ => h, fun _ _ _ h _ => h, fun _ _ _ h _ => h, fun _ _ _ h _ => h, fun _ _ _ h _ => h, fun _ _ _ h _ => h, fun _ _ _ h hx => h.ext hx, fun _ _ _ h _ => h, fun _ _ _ h _ => h, trivial⟩
          case ob =>
            refine ⟨Rg.at_run [3] rfl ?_, ?_⟩
            · intro ρ W hR ⟨q3, _⟩
              replace q3 : ρ 3 = .pointer (some ⟨w.heap.size, 0, none⟩) := q3
              refine ⟨rfl, ?_⟩
              exact Rg.run_ok (v := .pointer (some ⟨w.heap.size, 3, none⟩)) (by simp [execOp, Rg.ev, go_sem, q3]) ⟨rfl, hR, Ext.rfl' _⟩
            refine ⟨Rg.at_run [63] rfl ?_, ?_⟩
            · intro ρ W hR ⟨q63, _⟩
              replace q63 : ρ 63 = .pointer (some ⟨w.heap.size, 3, none⟩) := q63
              refine ⟨rfl, ?_⟩
              have c3_ : W.cell? ⟨w.heap.size, 3, none⟩ = some (.slice (some ⟨gs, 0, none⟩) SS.length cS) := ((hBr.ext hR).cell 3).trans rfl
              exact Rg.run_ok (v := .slice (some ⟨gs, 0, none⟩) SS.length cS) (by simp [execOp, Rg.ev, go_sem, q63, c3_]) ⟨rfl, hR, Ext.rfl' _⟩
            refine ⟨Rg.at_run [11] rfl ?_, ?_⟩
            · intro ρ W hR ⟨q11, _⟩
              replace q11 : ρ 11 = .int .i64 ja := q11
              refine ⟨rfl, ?_⟩
              exact Rg.run_ok (v := .int .i64 ja) (by simp [execOp, Rg.ev, go_sem, q11]) ⟨rfl, hR, Ext.rfl' _⟩
            refine ⟨Rg.at_run [3] rfl ?_, ?_⟩
            · intro ρ W hR ⟨q3, _⟩
              replace q3 : ρ 3 = .pointer (some ⟨w.heap.size, 0, none⟩) := q3
              refine ⟨rfl, ?_⟩
              exact Rg.run_ok (v := .pointer (some ⟨w.heap.size, 3, none⟩)) (by simp [execOp, Rg.ev, go_sem, q3]) ⟨rfl, hR, Ext.rfl' _⟩
            refine ⟨Rg.at_run [66] rfl ?_, ?_⟩
            · intro ρ W hR ⟨q66, _⟩
              replace q66 : ρ 66 = .pointer (some ⟨w.heap.size, 3, none⟩) := q66
              refine ⟨rfl, ?_⟩
              have c3_ : W.cell? ⟨w.heap.size, 3, none⟩ = some (.slice (some ⟨gs, 0, none⟩) SS.length cS) := ((hBr.ext hR).cell 3).trans rfl
              exact Rg.run_ok (v := .slice (some ⟨gs, 0, none⟩) SS.length cS) (by simp [execOp, Rg.ev, go_sem, q66, c3_]) ⟨rfl, hR, Ext.rfl' _⟩
            refine ⟨Rg.at_run [11] rfl ?_, ?_⟩
            · intro ρ W hR ⟨q11, _⟩
              replace q11 : ρ 11 = .int .i64 ja := q11
              refine ⟨rfl, ?_⟩
              exact Rg.run_ok (v := .int .i64 ja) (by simp [execOp, Rg.ev, go_sem, q11]) ⟨rfl, hR, Ext.rfl' _⟩
            refine ⟨Rg.at_run [67, 68] rfl ?_, ?_⟩
            · intro ρ W hR ⟨q67, q68, _⟩
              replace q67 : ρ 67 = .slice (some ⟨gs, 0, none⟩) SS.length cS := q67
              replace q68 : ρ 68 = .int .i64 ja := q68
              refine ⟨rfl, ?_⟩
              exact Rg.run_ok (v := .pointer (some ⟨gs, ja * 3, none⟩)) (by simp [execOp, Rg.ev, go_sem, q67, q68, hb1, hb2]) ⟨rfl, hR, Ext.rfl' _⟩
            refine ⟨Rg.at_run [69] rfl ?_, ?_⟩
            · intro ρ W hR ⟨q69, _⟩
              replace q69 : ρ 69 = .pointer (some ⟨gs, ja * 3, none⟩) := q69
              refine ⟨rfl, ?_⟩
              exact Rg.run_ok (v := .pointer (some ⟨gs, ja * 3 + 2, none⟩)) (by simp [execOp, Rg.ev, go_sem, q69]) ⟨rfl, hR, Ext.rfl' _⟩
            refine ⟨Rg.at_run [70] rfl ?_, ?_⟩
            · intro ρ W hR ⟨q70, _⟩
              replace q70 : ρ 70 = .pointer (some ⟨gs, ja * 3 + 2, none⟩) := q70
              refine ⟨rfl, ?_⟩
              have c_ : W.cell? ⟨gs, ja * 3 + 2, none⟩ = some (.slice Ad d.done.length cd) := by rw [hR.cell hgl]; exact p2
              exact Rg.run_ok (v := .slice Ad d.done.length cd) (by simp [execOp, Rg.ev, go_sem, q70, c_]) ⟨rfl, hR, Ext.rfl' _⟩
            refine ⟨Rg.at_run [71] rfl ?_, ?_⟩
            · intro ρ W hR ⟨q71, _⟩
              replace q71 : ρ 71 = .slice Ad d.done.length cd := q71
              refine ⟨rfl, ?_⟩
              refine Rg.run_enter (by simp [execOp, Rg.ev, go_sem, q71]; exact ⟨⟨rfl, rfl⟩, rfl⟩) ?_
              refine (cloneX_dn (fun k => X4 X w.heap.size k ∨ k = gs) W (fun k hk => hk.elim (fun h => Nat.lt_of_lt_of_le (x4_lt (fun k hk => Nat.lt_of_lt_of_le (hX k hk) hxr.size) hBr.lt hRrl h) hR.size) fun h => by subst h; exact Nat.lt_of_lt_of_le hgl hR.size) (.slice Ad d.done.length cd) d.done (Nat.le_trans hdm (by decide)) (p5.ext hR)).mono ?_
              rintro e W2 ⟨m, A5, c5, hm5, rfl, hown5, hx5⟩
              have hm' := hm5.out
              subst hm'
              exact ⟨_, rfl, hown5.base hR.size, hR.trans' hx5, hx5⟩
            refine ⟨Rg.at_run [64, 65] rfl ?_, ?_⟩
            · intro ρ W hR ⟨q64, q65, _⟩
              replace q64 : ρ 64 = .slice (some ⟨gs, 0, none⟩) SS.length cS := q64
              replace q65 : ρ 65 = .int .i64 ja := q65
              refine ⟨rfl, ?_⟩
              exact Rg.run_ok (v := .pointer (some ⟨gs, ja * 3, none⟩)) (by simp [execOp, Rg.ev, go_sem, q64, q65, hb1, hb2]) ⟨rfl, hR, Ext.rfl' _⟩
            refine ⟨Rg.at_run [73] rfl ?_, ?_⟩
            · intro ρ W hR ⟨q73, _⟩
              replace q73 : ρ 73 = .pointer (some ⟨gs, ja * 3, none⟩) := q73
              refine ⟨rfl, ?_⟩
              exact Rg.run_ok (v := .pointer (some ⟨gs, ja * 3 + 2, none⟩)) (by simp [execOp, Rg.ev, go_sem, q73]) ⟨rfl, hR, Ext.rfl' _⟩
            trivial
          case en =>
            intro tm W hR hsz hk
            rw [Rg.fin_eq (ds := [63, 64, 65, 66, 67, 68, 69, 70, 71, 72, 73, 74]) rfl rfl rfl hsz hk]
            have k63 : tm.getD 63 undef = .pointer (some ⟨w.heap.size, 3, none⟩) := hk 63
            have k64 : tm.getD 64 undef = .slice (some ⟨gs, 0, none⟩) SS.length cS := hk 64
            have k65 : tm.getD 65 undef = .int .i64 ja := hk 65
            have k66 : tm.getD 66 undef = .pointer (some ⟨w.heap.size, 3, none⟩) := hk 66
            have k67 : tm.getD 67 undef = .slice (some ⟨gs, 0, none⟩) SS.length cS := hk 67
            have k68 : tm.getD 68 undef = .int .i64 ja := hk 68
            have k69 : tm.getD 69 undef = .pointer (some ⟨gs, ja * 3, none⟩) := hk 69
            have k70 : tm.getD 70 undef = .pointer (some ⟨gs, ja * 3 + 2, none⟩) := hk 70
            have k71 : tm.getD 71 undef = .slice Ad d.done.length cd := hk 71
            have k72 : (fun v W => Own 68 dnE wr W (fun k => X4 X w.heap.size k ∨ k = gs) v d.done) (tm.getD 72 undef) W := hk 72
            have k73 : tm.getD 73 undef = .pointer (some ⟨gs, ja * 3, none⟩) := hk 73
            have k74 : tm.getD 74 undef = .pointer (some ⟨gs, ja * 3 + 2, none⟩) := hk 74
            clear hk hsz
            simp only [Rg.putAll, List.setIfInBounds_toArray, List.set_cons_zero, List.set_cons_succ, k63, k64, k65, k66, k67, k68, k69, k70, k71, k73, k74]
            clear k63
            clear k64
            clear k65
            clear k66
            clear k67
            clear k68
            clear k69
            clear k70
            clear k71
            generalize tm.getD 72 undef = u72 at *
            clear k73
            clear k74
            obtain ⟨A9, c9, hv9, -, -⟩ := k72.form
            subst hv9
            have hgW := Nat.lt_of_lt_of_le hgl hR.size
            have f2 : W.frozen? ⟨gs, ja * 3 + 2, none⟩ = false := by
              obtain ⟨cur', css', b1, -⟩ := (hSr.ext hR).blk (by omega)
              exact b1.frozen _
            have p2W : W.cell? ⟨gs, ja * 3 + 2, none⟩ = some (.slice Ad d.done.length cd) := by rw [hR.cell hgl]; exact p2
            have p0W : W.cell? ⟨gs, ja * 3, none⟩ = some (.int .i64 d.client) := by rw [hR.cell hgl]; exact p0
            have p1W : W.cell? ⟨gs, ja * 3 + 1, none⟩ = some (.int .u64 d.high) := by rw [hR.cell hgl]; exact p1
            have hS9 : Own 56 seE W7 (W.setCell ⟨gs, ja * 3 + 2, none⟩ (.slice A9 d.done.length c9)) (X4 X w.heap.size) (.slice (some ⟨gs, 0, none⟩) SS.length cS) SS := by
              have h := Own.third (hSr.ext hR) rfl hlt (a := d) (v := .slice A9 d.done.length c9) p0W p1W (se_rep.2 ⟨.slice A9 d.done.length c9, rfl, p3, p4, k72.sl⟩)
              rw [set_same SS ja d hds.out] at h
              exact h
            have hcg9 : Chg [gs] W (W.setCell ⟨gs, ja * 3 + 2, none⟩ (.slice A9 d.done.length c9)) := (Chg.refl _ _).set (by simp) _
            go_wp2
            go_roundw
            case rel =>
              obtain ⟨cu, hcu⟩ : ∃ cu, Blk W gs 56 cu := by
                obtain ⟨cur', css', b1, -⟩ := (hSr.ext hR).blk (by omega)
                exact ⟨cur', b1⟩
              refine ⟨ja + 1, hlt, by first | rfl | go_num, (hBr.ext hR).chg hcg9 (by simpa using hne), (hRr.ext hR).chg hcg9 (by simpa using hne3), (hLr.ext hR).chgT hcu (by decide) hcg9 (fun h => ln_rep.2 (ln_rep.1 h)), hS9, (hxr.trans' hR).then_ hcg9 (by simp; omega), ?_⟩
              exact Nat.le_trans hszr (Nat.le_trans hR.size hcg9.size)
            case measure => simp [intOf]; omega
        · obtain rfl : ja = SS.length := by omega
          have b0 := (hBr.cell 0).trans rfl
          have b1 := (hBr.cell 1).trans rfl
          have b2 := (hBr.cell 2).trans rfl
          have b3 := (hBr.cell 3).trans rfl
          have e0 := (hRr.cell 0).trans rfl
          have e1 := (hRr.cell 1).trans rfl
          have e2 := (hRr.cell 2).trans rfl
          have e3 := (hRr.cell 3).trans rfl
          have f0 := hRr.frozen 0
          have f1 := hRr.frozen 1
          have f2 := hRr.frozen 2
          have f3 := hRr.frozen 3
          go_wp2
          try simp only [Exit.inBlock, Exit.then]
          obtain ⟨hfin, hcf⟩ := put4 hRr (.int .u64 s.now) (.int .u64 s.count) (.slice AL s.links.length cL) (.slice AS SS.length cS)
          refine bodyPost_ret (results_cell_row rfl _ _ (w.heap.size + 3) 28 #[.int .u64 s.now, .int .u64 s.count, .slice AL s.links.length cL, .slice AS SS.length cS] (0, 0) _ rfl hfin Tryz.underlying28 rfl (by kernel_rfl)) rfl ?_
          rw [HSS.out]
          have hW7w : w.heap.size ≤ W7.heap.size := by omega
          have hFL := Own.fresh (hLr.chg hcf (fun k hk _ => .inr (.inr (by simpa using hk))))
          have hFS := Own.fresh (hSr.chg hcf (fun k hk _ => .inr (.inr (by simpa using hk))))
          exact ⟨AL, cL, AS, cS, rfl, st_rep.2 ⟨_, _, rfl, s1, s2, (hLr.chg hcf (fun k hk _ => .inr (.inr (by simpa using hk)))).sl.mono fun k _ h => .inl h, (hSr.chg hcf (fun k hk _ => .inr (.inr (by simpa using hk)))).sl.mono fun k _ h => .inl h⟩, Fresh.base hFL hW7w, Fresh.base hFS hW7w, hxr.then_ hcf (by simp)⟩
end Go.Proofs.YtamimdlaclglkaaGreat.KX
