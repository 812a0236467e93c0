import Derived.Test.YtggfemdgccgbpaaPk19
import Derived.Test.YtggfemdgccgbpaaPk26
/- CodeForms: what the law itself does. -/
namespace Go.Proofs.Ytggfemdgccgbpaa
set_option linter.unusedVariables false
set_option linter.unusedSimpArgs false
set_option linter.unnecessarySimpa false
set_option maxRecDepth 100000
open Go.RowKit
theorem alias_t (s : ByteArray) (w : World) (hs : s.size ≤ 140737488355000) (h : alias s = true) :
    Calls Try.prog 53 #[.string s] w fun e w' => e = .returned (.bool true) ∧ w = w' := by
  have := alias_b s w hs
  rwa [h] at this
theorem alias_f (s : ByteArray) (w : World) (hs : s.size ≤ 140737488355000) (h : alias s = false) :
    Calls Try.prog 53 #[.string s] w fun e w' => e = .returned (.bool false) ∧ w = w' := by
  have := alias_b s w hs
  rwa [h] at this




theorem code_at (d : Int) (m : Bytes) (k : Int) (w : World) (hd : 0 ≤ d ∧ d ≤ 18446744073709551615) (h : ocode d.toNat = (m, k)) :
    Calls Try.prog 16 #[.int .u64 d] w fun e w' => e = .returned (.tuple #[str m, .int .i64 k]) ∧ Ext w w' := by
  refine (code_b d w hd).mono ?_
  rintro e w' ⟨m', k', h', rfl, hx⟩
  have h9 := h'.out.trans h
  simp only [Prod.mk.injEq] at h9
  obtain ⟨rfl, rfl⟩ := h9
  exact ⟨rfl, hx⟩

























































end Go.Proofs.Ytggfemdgccgbpaa

/- Links: the maker makes a name, and gives one. -/
namespace Go.Proofs.Ytggfemdgccgbpaa
set_option linter.unusedVariables false
set_option linter.unusedSimpArgs false
set_option linter.unnecessarySimpa false
set_option maxRecDepth 100000
open Go.RowKit
theorem find_at {α : Type} {p : α → Bool} : ∀ {l : List α} {n : Nat} {x : α}, (∀ m a, m < n → l[m]? = some a → p a = false) → l[n]? = some x → p x = true → l.find? p = some x
  | [], n, x, _, h, _ => by simp at h
  | a :: l, 0, x, _, h, hp => by
    simp at h; subst h
    simp [hp]
  | a :: l, n + 1, x, h0, h, hp => by
    have h1 := h0 0 a (by omega) rfl
    rw [List.find?_cons, h1]
    exact find_at (n := n) (fun m b hm hb => h0 (m + 1) b (by omega) (by simpa using hb)) (by simpa using h) hp
set_option maxHeartbeats 6400000 in
theorem lkmakes_b (X : Avoid) (g : Nat) (s : St) (c : Cm) (vt vl vs : Value) (w : World) (hX : ∀ k, X k → k < w.heap.size) (hXg : ¬ X g) (h : Blk w g 71 (mkcells s c vt vl vs).toArray)
    (hvt : Enc.Sl lnE w (fun k => X k ∨ k = g) vt s.links) (hsl : Enc.Sl lnE w X vl s.links) (hl : s.links.length ≤ 10000) (hr : RiseL s.links) (hf : s.count < 238328 → lfind s.links (code3 s.count.toNat) = none) (hc : U64 s.count) (hct : U64 c.till) (hcu : c.url.length ≤ maxLen) :
    Calls Try.prog 38 #[.pointer (some ⟨g, 0, none⟩)] w fun e w' => RetMk X w w' g c vt vs e (lmakeW lkput s c) := by
  obtain ⟨At, ct, rfl, -, -⟩ := hvt.form
  have hgw := h.lt
  have hvX : Enc.Sl lnE w X (.slice At s.links.length ct) s.links := hvt.mono fun _ _ h => .inl h
  have hvN : Enc.Sl lnE w noneAt (.slice At s.links.length ct) s.links := hvt.mono fun _ _ h => h.elim
  obtain ⟨gc, hgc⟩ : ∃ gc, w.heap.size = gc := ⟨_, rfl⟩
  obtain ⟨ga, hga⟩ : ∃ ga, gc + 1 = ga := ⟨_, rfl⟩
  have hC := (Blk.new w 68 #[.pointer (some ⟨g, 0, none⟩)]).alloc (.cells (acells ⟨0, []⟩).toArray 33)
  have hA := Blk.new (w.alloc (.cells #[.pointer (some ⟨g, 0, none⟩)] 68)) 33 (acells ⟨0, []⟩).toArray
  have hx0 : Ext w ((w.alloc (.cells #[.pointer (some ⟨g, 0, none⟩)] 68)).alloc (.cells (acells ⟨0, []⟩).toArray 33)) := ((Ext.rfl' w).alloc' _).alloc' _
  rw [show (w.alloc (.cells #[.pointer (some ⟨g, 0, none⟩)] 68)).heap.size = w.heap.size + 1 by simp, hgc, hga] at hA
  rw [hgc] at hC
  have hgg : ga ≠ g := by omega
  have hgaw : w.heap.size ≤ ga := by omega
  have HM := hide (fun W (hx : Ext w W) => lkmay_b g s c (.slice At s.links.length ct) vl vs W (h.ext hx))
  obtain ⟨ek, hek⟩ : ∃ ek, lmay c s.now = ek := ⟨_, rfl⟩
  rw [hek] at HM
  have HEK := hide hek
  clear hek
  go_enter Try.func38, Try.ntmps38
  go_upto_region 1 with fail
  try rw [hgc]
  try rw [hga]
  generalize hw0 : ((w.alloc (.cells #[.pointer (some ⟨g, 0, none⟩)] 68)).alloc (.cells (acells ⟨0, []⟩).toArray 33)) = w0 at *
  clear hw0 hga
  have c0 : w0.cell? ⟨gc, 0, none⟩ = some (.pointer (some ⟨g, 0, none⟩)) := (hC.cell 0).trans rfl
  go_wp2_with fail
  refine (HM.out _ hx0).mono ?_
  rintro e w1 ⟨rfl, hx1⟩
  replace hC := hC.ext hx1
  replace hA := hA.ext hx1
  replace hx0 := hx0.trans' hx1
  clear hx1 c0
  by_cases hk : ek = 0
  case neg =>
    have hk' : (ek != 0) = true := by simpa using hk
    have HL : Hid (lmakeW lkput s c = (s, ⟨ek, []⟩)) := by unfold Hid lmakeW; rw [HEK.out, if_pos hk]
    go_wp2_with fail
    refine (lkans_b ek [] _).mono ?_
    rintro e W9 ⟨rfl, hx9⟩
    rw [if_neg hk]
    have hA9 := hA.ext hx9
    have y0 := (hA9.cell 0).trans rfl
    have y1 := (hA9.cell 1).trans rfl
    have z0 := hA9.frozen 0
    have z1 := hA9.frozen 1
    go_wp2
    try simp only [Exit.inBlock, Exit.then]
    refine bodyPost_ret (results_cell_row rfl _ _ ga 33 (acells ⟨ek, []⟩).toArray (0, 0) _ rfl (Blk.two_ hA9 (.int .i64 ek) (str [])) Try.underlying33 rfl (by kernel_rfl)) rfl ?_
    have hcA : Chg [ga] W9 _ := (Chg.refl [ga] W9).two_ (g := ga) (by simp) (.int .i64 ek) (str [])
    have hxe := (hx0.trans' hx9).then_ hcA (by simp; omega)
    exact ⟨s, _, hide HL.out.symm, rfl, vl, ((h.ext (hx0.trans' hx9)).chg hcA (by simpa using fun h => hgg h.symm)), hsl.ext hxe, hxe.chg [g]⟩
  subst hk
  have c0 : w1.cell? ⟨gc, 0, none⟩ = some (.pointer (some ⟨g, 0, none⟩)) := (hC.cell 0).trans rfl
  have m0 : w1.cell? ⟨g, 0, none⟩ = some (.slice At s.links.length ct) := ((h.ext hx0).cell 0).trans rfl
  go_wp2_with fail
  refine (idxLm_b (fun x => x.made && lown c x) (.pointer (some ⟨gc, 0, none⟩)) (.slice At s.links.length ct) s.links w1 (by omega) (hvN.ext hx0) (fun W x hW _ => makes1_b x gc g s c (.slice At s.links.length ct) vl vs W (h.ext (hx0.trans' hW)) (hC.ext hW).lt (((hC.ext hW).cell 0).trans rfl))).mono ?_
  rintro e w2 ⟨⟨r, rfl, hidx⟩, hx2⟩
  replace hC := hC.ext hx2
  replace hA := hA.ext hx2
  replace hx0 := hx0.trans' hx2
  clear hx2 c0 m0 HM
  have c0 : w2.cell? ⟨gc, 0, none⟩ = some (.pointer (some ⟨g, 0, none⟩)) := (hC.cell 0).trans rfl
  have m0 : w2.cell? ⟨g, 0, none⟩ = some (.slice At s.links.length ct) := ((h.ext hx0).cell 0).trans rfl
  have m2 : w2.cell? ⟨g, 2, none⟩ = some (.int .u64 s.count) := ((h.ext hx0).cell 2).trans rfl
  rcases hidx.out with ⟨rfl, hall⟩ | ⟨n, rfl, hn, hbef, hat⟩
  case inr =>
    obtain ⟨ad, x, rfl, hs, hbk, p0, p1, p2, p3, r1, r2, r3⟩ := ln_at (hvN.ext hx0) (k := n) hn
    have HL : Hid (lmakeW lkput s c = (s, ⟨0, x.name⟩)) := by
      unfold Hid lmakeW
      rw [HEK.out, if_neg (by simp), find_at hbef hs.out (hat x hs.out)]
    have hn0 : (0 : Int) ≤ n := by omega
    have hn1 : (n : Int) < s.links.length := by omega
    clear hbef hat
    go_wp2_with fail
    refine (lkans_b 0 x.name _).mono ?_
    rintro e W9 ⟨rfl, hx9⟩
    rw [if_pos rfl]
    have hA9 := hA.ext hx9
    have y0 := (hA9.cell 0).trans rfl
    have y1 := (hA9.cell 1).trans rfl
    have z0 := hA9.frozen 0
    have z1 := hA9.frozen 1
    go_wp2
    try simp only [Exit.inBlock, Exit.then]
    refine bodyPost_ret (results_cell_row rfl _ _ ga 33 (acells ⟨0, x.name⟩).toArray (0, 0) _ rfl (Blk.two_ hA9 (.int .i64 0) (str x.name)) Try.underlying33 rfl (by kernel_rfl)) rfl ?_
    have hcA : Chg [ga] W9 _ := (Chg.refl [ga] W9).two_ (g := ga) (by simp) (.int .i64 0) (str x.name)
    have hxe := (hx0.trans' hx9).then_ hcA (by simp; omega)
    exact ⟨s, _, hide HL.out.symm, rfl, vl, ((h.ext (hx0.trans' hx9)).chg hcA (by simpa using fun h => hgg h.symm)), hsl.ext hxe, hxe.chg [g]⟩
  have HN : Hid (s.links.find? (fun x => x.made && lown c x) = none) := hide (List.find?_eq_none.2 fun x hx => by have := hall x hx; simp only at this; rw [this]; simp)
  clear hidx hall
  go_wp2_with fail
  refine (code_b s.count w2 hc).mono ?_
  rintro e w3 ⟨m, k2, hmk, rfl, hx3⟩
  replace hC := hC.ext hx3
  replace hA := hA.ext hx3
  replace hx0 := hx0.trans' hx3
  clear hx3 c0 m0 m2
  have c0 : w3.cell? ⟨gc, 0, none⟩ = some (.pointer (some ⟨g, 0, none⟩)) := (hC.cell 0).trans rfl
  have m0 : w3.cell? ⟨g, 0, none⟩ = some (.slice At s.links.length ct) := ((h.ext hx0).cell 0).trans rfl
  have m2 : w3.cell? ⟨g, 2, none⟩ = some (.int .u64 s.count) := ((h.ext hx0).cell 2).trans rfl
  have f2 := (h.ext hx0).frozen 2
  by_cases hfull : 238328 ≤ s.count
  · have HL : Hid (lmakeW lkput s c = (s, ⟨12, []⟩)) := by
      unfold Hid lmakeW
      rw [HEK.out, if_neg (by simp), HN.out]
      simp only
      rw [if_pos (.inl hfull)]
    have h12 : (m, k2) = ([], 12) := hmk.out.trans (if_pos (by omega))
    obtain ⟨rfl, rfl⟩ := Prod.mk.inj h12
    clear h12 hmk
    go_wp2_with fail
    refine (lkans_b 12 [] _).mono ?_
    rintro e W9 ⟨rfl, hx9⟩
    rw [if_neg (by decide)]
    have hA9 := hA.ext hx9
    have y0 := (hA9.cell 0).trans rfl
    have y1 := (hA9.cell 1).trans rfl
    have z0 := hA9.frozen 0
    have z1 := hA9.frozen 1
    go_wp2
    try simp only [Exit.inBlock, Exit.then]
    refine bodyPost_ret (results_cell_row rfl _ _ ga 33 (acells ⟨12, []⟩).toArray (0, 0) _ rfl (Blk.two_ hA9 (.int .i64 12) (str [])) Try.underlying33 rfl (by kernel_rfl)) rfl ?_
    have hcA : Chg [ga] W9 _ := (Chg.refl [ga] W9).two_ (g := ga) (by simp) (.int .i64 12) (str [])
    have hxe := (hx0.trans' hx9).then_ hcA (by simp; omega)
    exact ⟨s, _, hide HL.out.symm, rfl, vl, ((h.ext (hx0.trans' hx9)).chg hcA (by simpa using fun h => hgg h.symm)), hsl.ext hxe, hxe.chg [g]⟩
  have h12 : (m, k2) = (code3 s.count.toNat, 0) := hmk.out.trans (ocode_lt _ (by have := hc.1; omega))
  obtain ⟨hm, rfl⟩ := Prod.mk.inj h12
  have HMN := hide hm
  clear h12 hmk hm
  by_cases h40 : (40 : Int) ≤ s.links.length
  · have HL : Hid (lmakeW lkput s c = (s, ⟨12, []⟩)) := by
      unfold Hid lmakeW
      rw [HEK.out, if_neg (by simp), HN.out]
      simp only
      rw [if_pos (.inr (by omega))]
    go_wp2_with fail
    refine (lkans_b 12 [] _).mono ?_
    rintro e W9 ⟨rfl, hx9⟩
    rw [if_neg (by decide)]
    have hA9 := hA.ext hx9
    have y0 := (hA9.cell 0).trans rfl
    have y1 := (hA9.cell 1).trans rfl
    have z0 := hA9.frozen 0
    have z1 := hA9.frozen 1
    go_wp2
    try simp only [Exit.inBlock, Exit.then]
    refine bodyPost_ret (results_cell_row rfl _ _ ga 33 (acells ⟨12, []⟩).toArray (0, 0) _ rfl (Blk.two_ hA9 (.int .i64 12) (str [])) Try.underlying33 rfl (by kernel_rfl)) rfl ?_
    have hcA : Chg [ga] W9 _ := (Chg.refl [ga] W9).two_ (g := ga) (by simp) (.int .i64 12) (str [])
    have hxe := (hx0.trans' hx9).then_ hcA (by simp; omega)
    exact ⟨s, _, hide HL.out.symm, rfl, vl, ((h.ext (hx0.trans' hx9)).chg hcA (by simpa using fun h => hgg h.symm)), hsl.ext hxe, hxe.chg [g]⟩
  have HL : Hid (lmakeW lkput s c = (⟨s.now, s.count + 1, lkput s.links ⟨m, c.url, c.till, true⟩, s.sess⟩, ⟨0, m⟩)) := by
    rw [HMN.out]
    exact lmakeW_new _ HEK.out HN.out (by omega)
  have hfr := hf (by omega)
  rw [← HMN.out] at hfr
  have hml : m.length ≤ maxLen := by rw [HMN.out]; show 3 ≤ maxLen; simp [maxLen]
  have hw1 : IntKind.u64.wrap (s.count + 1) = s.count + 1 := by rw [IntKind.wrap_u64]; have := hc.1; omega
  have hcg : Chg [g] w3 (w3.setCell ⟨g, 2, none⟩ (.int .u64 (s.count + 1))) := (Chg.refl [g] w3).set (by simp) _
  have hB4 := (h.ext hx0).set_ 2 (.int .u64 (s.count + 1))
  have hA4 := hA.chg hcg (by simpa using hgg)
  have hC4 := hC.chg hcg (by simp; omega)
  have hvp := ((hvt.mono (Y := fun k => (X k ∨ k = ga) ∨ k = g) (fun k hk h => h.elim (fun h => h.elim .inl fun h => by omega) .inr)).ext hx0).chg hcg (fun k hk _ => .inr (by simpa using hk))
  replace hvp := hvp.mono (Y := fun k => X k ∨ k = ga) (fun k _ h => .inl h)
  have hx4s := hcg.size
  go_upto_region 11 with fail
  generalize w3.setCell ⟨g, 2, none⟩ (.int .u64 (s.count + 1)) = w4 at *
  replace hB4 : Blk w4 g 71 (mkcells ⟨s.now, s.count + 1, s.links, s.sess⟩ c (.slice At s.links.length ct) vl vs).toArray := hB4
  have c04 : w4.cell? ⟨gc, 0, none⟩ = some (.pointer (some ⟨g, 0, none⟩)) := (hC4.cell 0).trans rfl
  clear m0 m2 f2 c0
  go_wp2_with fail
  refine (lkput_b (fun k => X k ∨ k = ga) g ⟨s.now, s.count + 1, s.links, s.sess⟩ c (.slice At s.links.length ct) vl vs m true _ (fun k hk => hk.elim (fun hk => by have := hX k hk; have := Nat.le_trans hx0.size hx4s; omega) (fun hk => by subst hk; exact hA4.lt)) (fun hk => hk.elim hXg fun h => hgg h.symm) hB4 hvp hl hr hfr ⟨hml, hcu, hct⟩).mono ?_
  rintro e w6 ⟨t, a, hta, rfl, vl6, hB6, hsl6, hc6⟩
  obtain ⟨rfl, rfl⟩ := Prod.mk.inj hta.out
  have hA6 := hA4.chg hc6 (by simpa using hgg)
  have y0 := (hA6.cell 0).trans rfl
  have y1 := (hA6.cell 1).trans rfl
  have z0 := hA6.frozen 0
  have z1 := hA6.frozen 1
  go_wp2
  try simp only [Exit.inBlock, Exit.then]
  refine bodyPost_ret (results_cell_row rfl _ _ ga 33 (acells ⟨0, m⟩).toArray (0, 0) _ rfl (Blk.two_ hA6 (.int .i64 0) (str (m))) Try.underlying33 rfl (by kernel_rfl)) rfl ?_
  have hcA : Chg [ga] w6 _ := (Chg.refl [ga] w6).two_ (g := ga) (by simp) (.int .i64 0) (str (m))
  exact ⟨_, _, hide HL.out.symm, rfl, vl6, hB6.chg hcA (by simpa using fun h => hgg h.symm), (hsl6.chg hcA (fun k hk _ => .inr (by simpa using hk))).mono (fun _ _ h => .inl h), (((hx0.chg [g]).trans hcg).trans hc6).then_new hcA (by simp; omega)⟩
end Go.Proofs.Ytggfemdgccgbpaa

