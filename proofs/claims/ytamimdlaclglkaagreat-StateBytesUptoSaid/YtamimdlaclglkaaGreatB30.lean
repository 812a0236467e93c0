/- A part of the proof of 'StateBytes'. -/
import Derived.Test.YtamimdlaclglkaaGreatB19
import Derived.Test.YtamimdlaclglkaaGreatB14
import Derived.Test.YtamimdlaclglkaaGreatB11
import Derived.Test.YtamimdlaclglkaaGreatB29
import Derived.Test.YtamimdlaclglkaaGreatB8
import Derived.Laws.Cover1
import Derived.RegionTactic
import Derived.ChangeAlike
namespace Go.Proofs.YtamimdlaclglkaaGreat
set_option linter.unusedVariables false
set_option linter.unusedSimpArgs false
set_option linter.unnecessarySimpa false
set_option maxRecDepth 100000
open Go.RowKit
abbrev XC (X : Avoid) (g : Nat) : Avoid := fun j => X j ∨ (g ≤ j ∧ j ≤ g + 1)
theorem two_alC (W : World) (T1 T2 : TypeId) (c1 c2 : Array Value) : Blk ((W.alloc (.cells c1 T1)).alloc (.cells c2 T2)) W.heap.size T1 c1 ∧ Blk ((W.alloc (.cells c1 T1)).alloc (.cells c2 T2)) (W.heap.size + 1) T2 c2 ∧ Ext W ((W.alloc (.cells c1 T1)).alloc (.cells c2 T2)) := by
  have h2 := Blk.new (W.alloc (.cells c1 T1)) T2 c2
  rw [show (W.alloc (.cells c1 T1)).heap.size = W.heap.size + 1 by simp] at h2
  exact ⟨(Blk.new W T1 c1).alloc _, h2, ((Ext.rfl' W).alloc' _).alloc' _⟩
/-- elements that hold no memory are apart of any -/
theorem Own.flatL {w w' : World} {X : Avoid} {v : Value} {l : List Ln} (h : Own 53 lnE w w' noneAt v l) (hX : ∀ j, X j → j < w.heap.size) : Own 53 lnE w w' X v l := by
  obtain ⟨css, h1, h2, h3⟩ := h
  exact ⟨css, h1, ⟨h2.1, fun k cs a e1 e2 => ln_rep.2 (ln_rep.1 (h2.2 k cs a e1 e2))⟩, fun k hk hx => by have := (h1.lt k hk).1; have := hX k hx; omega⟩
theorem Own.flatD {w w' : World} {X : Avoid} {v : Value} {l : List Dn} (h : Own 68 dnE w w' noneAt v l) (hX : ∀ j, X j → j < w.heap.size) : Own 68 dnE w w' X v l := by
  obtain ⟨css, h1, h2, h3⟩ := h
  exact ⟨css, h1, ⟨h2.1, fun k cs a e1 e2 => dn_rep.2 (dn_rep.1 (h2.2 k cs a e1 e2))⟩, fun k hk hx => by have := (h1.lt k hk).1; have := hX k hx; omega⟩
theorem Own.chgL {S : List Nat} {w0 w w' : World} {X : Avoid} {v : Value} {l : List Ln} (h : Own 53 lnE w0 w X v l) (hc : Chg S w w') (hn : ∀ k, v.ownBlock = some k → k ∉ S) : Own 53 lnE w0 w' X v l := by
  obtain ⟨css, h1, h2, h3⟩ := h
  exact ⟨css, own_chg h1 hc hn, ⟨h2.1, fun k cs a e1 e2 => ln_rep.2 (ln_rep.1 (h2.2 k cs a e1 e2))⟩, h3⟩
/-- the first ka have what was done in memory of their own -/
def DoneTo (X : Avoid) (W : World) (A : Option Addr) (l : List Se) (ka : Nat) : Prop :=
  ∀ i x, i < ka → l[i]? = some x → ∃ g v, A = some ⟨g, 0, none⟩ ∧ W.cell? ⟨g, i * 3 + 2, none⟩ = some v ∧ Enc.Sl dnE W (fun j => X j ∨ j = g) v x.done
theorem DoneTo.start (X : Avoid) (W : World) (A : Option Addr) (l : List Se) : DoneTo X W A l 0 := fun i _ h => by omega
theorem DoneTo.step {X : Avoid} {W W1 : World} {gs ka : Nat} {l : List Se} {d : Se} {u : Value} (h : DoneTo X W (some ⟨gs, 0, none⟩) l ka) (hx : Ext W W1) (hd : l[ka]? = some d) (hu : Enc.Sl dnE W1 (fun j => X j ∨ j = gs) u d.done)
    {cur : Array Value} {T : TypeId} (hB : Blk W1 gs T cur) (hc : ka * 3 + 2 < cur.size) : DoneTo X (W1.setCell ⟨gs, ka * 3 + 2, none⟩ u) (some ⟨gs, 0, none⟩) l (ka + 1) := by
  intro i x hi hix
  have hcg : Chg [gs] W1 (W1.setCell ⟨gs, ka * 3 + 2, none⟩ u) := (Chg.refl _ _).set (by simp) _
  have hin : ∀ j, j ∈ [gs] → j < W1.heap.size → (X j ∨ j = gs) := fun j hj _ => .inr (List.mem_singleton.1 hj)
  by_cases hik : i = ka
  · subst hik
    obtain rfl := Option.some.inj (hd.symm.trans hix)
    refine ⟨gs, u, rfl, ?_, hu.chg hcg hin⟩
    have := (hB.set_ (i * 3 + 2) u).cell (i * 3 + 2)
    rw [this]; simp [hc]
  · obtain ⟨g', v, he, h1, h2⟩ := h i x (by omega) hix
    obtain rfl : gs = g' := by injection he with he; injection he
    refine ⟨gs, v, rfl, ?_, (h2.ext hx).chg hcg hin⟩
    have hlt := World.block_lt_of_cell? W _ h1
    rw [World.cell?_setCell_other _ _ _ _ (fun e => by injection e with _ e2 _; omega), hx.cell hlt]
    exact h1
theorem Own.done_ {w W : World} {X : Avoid} {A : Option Addr} {n c : Nat} {l : List Se} (h : Own 56 seE w W noneAt (.slice A n c) l) (hd : DoneTo X W A l l.length) (hX : ∀ j, X j → j < w.heap.size) : Own 56 seE w W X (.slice A n c) l := by
  obtain ⟨css, h1, h2, h3⟩ := h
  have hbs : ∀ k, (Value.slice A n c).ownBlock = some k → ¬ X k := fun k hk hx => by have := (h1.lt k hk).1; have := hX k hx; omega
  refine ⟨css, h1, ⟨h2.1, fun k cs a e1 e2 => ?_⟩, hbs⟩
  have hkl : k < l.length := (List.getElem?_eq_some_iff.1 e2).1
  obtain ⟨v, rfl, k1, k2, k3⟩ := se_rep.1 (h2.2 k cs a e1 e2)
  obtain ⟨g, v', rfl, hc, hsl⟩ := hd k a hkl e2
  rcases h1.2 with ⟨h4, h5⟩ | ⟨g', cap, cur, hv, hg, hh, hn, hm, hsz, ht⟩
  · cases h4
  · simp only [Value.slice.injEq, Option.some.injEq, Addr.mk.injEq, and_true, true_and] at hv
    obtain ⟨rfl, rfl, rfl⟩ := hv
    have hf := Enc.flatten_at css k _ h2.lens e1 2 v rfl
    rw [show k * seE.size + 2 = k * 3 + 2 from rfl, ← ht, List.getElem?_take] at hf
    split at hf
    · have hB : Blk W g 56 cur := hh
      rw [hB.cell, ← Array.getElem?_toList, hf] at hc
      obtain rfl := Option.some.inj hc
      exact se_rep.2 ⟨v, rfl, k1, k2, hsl.mono fun j _ hj => hj.elim .inl fun h => .inr (Option.some.inj h).symm⟩
    · cases hf
set_option maxHeartbeats 6400000 in
theorem stcopiedO_b (X : Avoid) (s : St) (cs : List Value) (w : World) (hX : ∀ j, X j → j < w.heap.size) (hs : stE.rep w noneAt cs s) (hll : s.links.length ≤ 100000) (hsl : s.sess.length ≤ 100000) (hdl : ∀ e ∈ s.sess, e.done.length ≤ 100000) :
    Calls Tryz.prog 27 #[.agg cs.toArray] w fun e w' => RetStO X w w' e s := by
  obtain ⟨vl, vs, rfl, hnow, hcnt, hL, hS⟩ := st_rep.1 hs
  obtain ⟨AL0, cL0, rfl, -, -⟩ := hL.form
  obtain ⟨AS0, cS0, rfl, -, -⟩ := hS.form
  obtain ⟨hB, hR_, hxw⟩ := two_alC w 28 28 (stcells s (.slice AL0 s.links.length cL0) (.slice AS0 s.sess.length cS0)).toArray #[.int .u64 0, .int .u64 0, .slice none 0 0, .slice none 0 0]
  have hsw1 := hide hxw.size
  obtain ⟨g, hg⟩ : ∃ g, w.heap.size = g := ⟨_, rfl⟩
  rw [hg] at hB hR_
  have hXl : ∀ j, X j → j < g := fun j hj => by rw [← hg]; exact hX j hj
  go_enter Tryz.func27, Tryz.ntmps27
  go_upto_region 1 with fail
  generalize ((w.alloc (.cells (stcells s (.slice AL0 s.links.length cL0) (.slice AS0 s.sess.length cS0)).toArray 28)).alloc (.cells #[.int .u64 0, .int .u64 0, .slice none 0 0, .slice none 0 0] 28)) = w1 at *
  try rw [hg]
  have hXK : ∀ j, XC X g j → j < w1.heap.size := fun j hj => by
    have h1 := hR_.lt
    rcases hj with h | h
    · have := hXl j h; omega
    · omega
  have hL1 := hL.ext hxw
  have hS1 := hS.ext hxw
  have hx1 := Ext.rfl' w1
  have b2 := (hB.cell 2).trans rfl
  go_wp2_with fail
  refine (cloneX_ln noneAt w1 (fun _ h => h.elim) (.slice AL0 s.links.length cL0) s.links hll hL1).mono ?_
  rintro e W2 ⟨m, AL, cL, hm, rfl, hol, hx2⟩
  obtain rfl : m = s.links := hm.out
  clear b2 hm
  replace hB := hB.ext hx2
  have f2 := hB.frozen 2
  have d2 := (hB.cell 2).trans rfl
  have hcg : Chg [g] W2 (W2.setCell ⟨g, 2, none⟩ (.slice AL s.links.length cL)) := (Chg.refl _ _).set (by simp) _
  replace hB := hB.set_ 2 (.slice AL s.links.length cL)
  change Blk _ g _ #[.int .u64 s.now, .int .u64 s.count, .slice AL s.links.length cL, .slice AS0 s.sess.length cS0] at hB
  replace hR_ := (hR_.ext hx2).chg hcg (by simp)
  replace hol := (hol.flatL (X := XC X g) hXK).chg hcg (fun j hj _ => .inr (by have := List.mem_singleton.1 hj; omega))
  replace hS1 := (((hS.mono (Y := fun j => j = g) (fun j hj h => by omega)).ext (hxw.trans' hx2)).chg hcg (fun j hj _ => List.mem_singleton.1 hj))
  replace hxw := (hxw.trans' hx2).then_ hcg (by simp; omega)
  have hx3 : Chg [g] w1 _ := (hx2.chg [g]).trans hcg
  go_upto_region 2 with fail
  generalize W2.setCell ⟨g, 2, none⟩ (.slice AL s.links.length cL) = W3 at *
  clear hcg f2 d2 hx2 hL1 hx1
  have b3 := (hB.cell 3).trans rfl
  go_wp2_with fail
  have hgW3 : g + 1 < W3.heap.size := by have := hx3.size; have := hXK (g + 1) (.inr ⟨by omega, by omega⟩); omega
  refine (cloneX_se (fun j => j = g) W3 (fun j h => by omega) (.slice AS0 s.sess.length cS0) s.sess hsl hS1).mono ?_
  rintro e W4 ⟨m, AS, cS, hm, rfl, hos, hx4⟩
  obtain rfl : m = s.sess := hm.out
  clear b3 hm
  replace hB := hB.ext hx4
  have f3 := hB.frozen 3
  have d3 := (hB.cell 3).trans rfl
  have hcg : Chg [g] W4 (W4.setCell ⟨g, 3, none⟩ (.slice AS s.sess.length cS)) := (Chg.refl _ _).set (by simp) _
  replace hB := hB.set_ 3 (.slice AS s.sess.length cS)
  change Blk _ g _ #[.int .u64 s.now, .int .u64 s.count, .slice AL s.links.length cL, .slice AS s.sess.length cS] at hB
  replace hR_ := (hR_.ext hx4).chg hcg (by simp)
  replace hol := (hol.ext hx4).chg hcg (fun j hj _ => .inr (by have := List.mem_singleton.1 hj; omega))
  have hos0 : Own 56 seE w1 _ (fun j => j = g) (.slice AS s.sess.length cS) s.sess := (hos.base hx3.size).chg hcg (fun j hj _ => List.mem_singleton.1 hj)
  replace hxw := (hxw.trans' hx4).then_ hcg (by simp; omega)
  go_upto_region 3 with fail
  generalize W4.setCell ⟨g, 3, none⟩ (.slice AS s.sess.length cS) = W5 at *
  clear hcg f3 d3 hx4 hS1 hos hx3
  have b3 := (hB.cell 3).trans rfl
  go_wp2_with fail
  go_loopw [15] (fun i wr => ∃ ka : Nat, ka ≤ s.sess.length ∧ i = .int .i64 ka ∧ Blk wr g 28 #[.int .u64 s.now, .int .u64 s.count, .slice AL s.links.length cL, .slice AS s.sess.length cS] ∧
      Blk wr (g + 1) 28 #[.int .u64 0, .int .u64 0, .slice none 0 0, .slice none 0 0] ∧ Own 53 lnE w1 wr (XC X g) (.slice AL s.links.length cL) s.links ∧ Own 56 seE w1 wr noneAt (.slice AS s.sess.length cS) s.sess ∧ Hid (DoneTo (XC X g) wr AS s.sess ka) ∧ Ext w wr) (fun i _ => (s.sess.length - intOf i).toNat)
  case atStart => exact ⟨0, by omega, rfl, hB, hR_, hol, hos0.mono (fun _ _ h => h.elim), hide (DoneTo.start _ _ _ _), hxw⟩
  case round =>
    clear hB hR_ hol hos0 hxw b3
    obtain ⟨ka, hka, rfl, hB, hR_, hol, hown, HD, hxw⟩ := hrel
    by_cases hlt : ka < s.sess.length
    · obtain ⟨gs, cap2, cur, css, hv, hbk, hgs, hcap, -, hcsz, -, -, -⟩ := hown.openG (by omega)
      simp only [Value.slice.injEq, true_and] at hv
      obtain ⟨rfl, rfl⟩ := hv
      obtain ⟨d, ds, hds, hgl, hrep, hcell⟩ := own_cellsG hown hlt
      obtain ⟨vd, rfl, hdc, hdh, hdb⟩ := se_rep.1 hrep
      have hdm := hdl d (List.mem_of_getElem? hds.out)
      obtain ⟨Ad, cd, rfl, -, -⟩ := hdb.form
      have p1 : wr.cell? ⟨gs, ka * 3 + 2, none⟩ = some (.slice Ad d.done.length cd) := hcell 2 _ rfl
      have hXs : ∀ j, (XC X g j ∨ j = gs) → j < wr.heap.size := fun j hj => by
        have h1 := hR_.lt
        rcases hj with (h | h) | h
        · have := hXl j h; omega
        · omega
        · rw [h]; exact hgl
      have hb1 : (0 : Int) ≤ ka := by omega
      have hb2 : (ka : Int) < s.sess.length := by omega
      have hgg : g + 1 < gs := by have := hXK (g + 1) (.inr ⟨by omega, by omega⟩); omega
      have hcs : ka * 3 + 2 < cur.size := by
        rw [hcsz]
        have : (ka + 1) * 3 ≤ cS * 3 := Nat.mul_le_mul_right _ (by omega)
        show _ < _ * 3
        omega
      have HLT := hide hlt
      clear hlt hcell hrep hcsz hcap
      go_wp2
      refine Rg.regionT Tryz.checked.mixed 32 12 (by kernel_rfl) [
        (fun x_ _ => x_ = .pointer (some ⟨g, 3, none⟩)),
        (fun x_ _ => x_ = .slice (some ⟨gs, 0, none⟩) s.sess.length cS),
        (fun x_ _ => x_ = .int .i64 ka),
        (fun x_ _ => x_ = .pointer (some ⟨g, 3, none⟩)),
        (fun x_ _ => x_ = .slice (some ⟨gs, 0, none⟩) s.sess.length cS),
        (fun x_ _ => x_ = .int .i64 ka),
        (fun x_ _ => x_ = .pointer (some ⟨gs, ka * 3, none⟩)),
        (fun x_ _ => x_ = .pointer (some ⟨gs, ka * 3 + 2, none⟩)),
        (fun x_ _ => x_ = .slice Ad d.done.length cd),
        (fun v W => Enc.Sl dnE W (fun j => XC X g j ∨ j = gs) v d.done),
        (fun x_ _ => x_ = .pointer (some ⟨gs, ka * 3, none⟩)),
        (fun x_ _ => x_ = .pointer (some ⟨gs, ka * 3 + 2, none⟩))] (fun W => Ext wr W) Ext rfl rfl rfl
        ?st ((Ext.rfl' wr).drew') ?ob ?en
      case st => exact ⟨fun _ _ _ h _ => h, fun _ _ _ h _ => h, fun _ _ _ h _ => h, fun _ _ _ h _ => h, fun _ _ _ h _ => h, fun _ _ _ h _ => h, fun _ _ _ h _ => h, fun _ _ _ h _ => h, fun _ _ _ h _ => h, fun _ _ _ h hx => h.ext hx, fun _ _ _ h _ => h, fun _ _ _ h _ => h, trivial⟩
      case ob =>
        refine ⟨Rg.at_run [1] rfl ?_, ?_⟩
        · intro ρ W hR ⟨q1, _⟩
          replace q1 : ρ 1 = .pointer (some ⟨g, 0, none⟩) := q1
          refine ⟨rfl, ?_⟩
          exact Rg.run_ok (v := .pointer (some ⟨g, 3, none⟩)) (by simp [execOp, Rg.ev, go_sem, q1]) ⟨rfl, hR, Ext.rfl' _⟩
        refine ⟨Rg.at_run [18] rfl ?_, ?_⟩
        · intro ρ W hR ⟨q18, _⟩
          replace q18 : ρ 18 = .pointer (some ⟨g, 3, none⟩) := q18
          refine ⟨rfl, ?_⟩
          have c3_ : W.cell? ⟨g, 3, none⟩ = some (.slice (some ⟨gs, 0, none⟩) s.sess.length cS) := ((hB.ext hR).cell 3).trans rfl
          exact Rg.run_ok (v := .slice (some ⟨gs, 0, none⟩) s.sess.length cS) (by simp [execOp, Rg.ev, go_sem, q18, c3_]) ⟨rfl, hR, Ext.rfl' _⟩
        refine ⟨Rg.at_run [3] rfl ?_, ?_⟩
        · intro ρ W hR ⟨q3, _⟩
          replace q3 : ρ 3 = .int .i64 ka := q3
          refine ⟨rfl, ?_⟩
          exact Rg.run_ok (v := .int .i64 ka) (by simp [execOp, Rg.ev, go_sem, q3]) ⟨rfl, hR, Ext.rfl' _⟩
        refine ⟨Rg.at_run [1] rfl ?_, ?_⟩
        · intro ρ W hR ⟨q1, _⟩
          replace q1 : ρ 1 = .pointer (some ⟨g, 0, none⟩) := q1
          refine ⟨rfl, ?_⟩
          exact Rg.run_ok (v := .pointer (some ⟨g, 3, none⟩)) (by simp [execOp, Rg.ev, go_sem, q1]) ⟨rfl, hR, Ext.rfl' _⟩
        refine ⟨Rg.at_run [21] rfl ?_, ?_⟩
        · intro ρ W hR ⟨q21, _⟩
          replace q21 : ρ 21 = .pointer (some ⟨g, 3, none⟩) := q21
          refine ⟨rfl, ?_⟩
          have c3_ : W.cell? ⟨g, 3, none⟩ = some (.slice (some ⟨gs, 0, none⟩) s.sess.length cS) := ((hB.ext hR).cell 3).trans rfl
          exact Rg.run_ok (v := .slice (some ⟨gs, 0, none⟩) s.sess.length cS) (by simp [execOp, Rg.ev, go_sem, q21, c3_]) ⟨rfl, hR, Ext.rfl' _⟩
        refine ⟨Rg.at_run [3] rfl ?_, ?_⟩
        · intro ρ W hR ⟨q3, _⟩
          replace q3 : ρ 3 = .int .i64 ka := q3
          refine ⟨rfl, ?_⟩
          exact Rg.run_ok (v := .int .i64 ka) (by simp [execOp, Rg.ev, go_sem, q3]) ⟨rfl, hR, Ext.rfl' _⟩
        refine ⟨Rg.at_run [22, 23] rfl ?_, ?_⟩
        · intro ρ W hR ⟨q22, q23, _⟩
          replace q22 : ρ 22 = .slice (some ⟨gs, 0, none⟩) s.sess.length cS := q22
          replace q23 : ρ 23 = .int .i64 ka := q23
          refine ⟨rfl, ?_⟩
          exact Rg.run_ok (v := .pointer (some ⟨gs, ka * 3, none⟩)) (by simp [execOp, Rg.ev, go_sem, q22, q23, hb1, hb2]) ⟨rfl, hR, Ext.rfl' _⟩
        refine ⟨Rg.at_run [24] rfl ?_, ?_⟩
        · intro ρ W hR ⟨q24, _⟩
          replace q24 : ρ 24 = .pointer (some ⟨gs, ka * 3, none⟩) := q24
          refine ⟨rfl, ?_⟩
          exact Rg.run_ok (v := .pointer (some ⟨gs, ka * 3 + 2, none⟩)) (by simp [execOp, Rg.ev, go_sem, q24]) ⟨rfl, hR, Ext.rfl' _⟩
        refine ⟨Rg.at_run [25] rfl ?_, ?_⟩
        · intro ρ W hR ⟨q25, _⟩
          replace q25 : ρ 25 = .pointer (some ⟨gs, ka * 3 + 2, none⟩) := q25
          refine ⟨rfl, ?_⟩
          have c_ : W.cell? ⟨gs, ka * 3 + 2, none⟩ = some (.slice Ad d.done.length cd) := by rw [hR.cell hgl]; exact p1
          exact Rg.run_ok (v := .slice Ad d.done.length cd) (by simp [execOp, Rg.ev, go_sem, q25, c_]) ⟨rfl, hR, Ext.rfl' _⟩
        refine ⟨Rg.at_run [26] rfl ?_, ?_⟩
        · intro ρ W hR ⟨q26, _⟩
          replace q26 : ρ 26 = .slice Ad d.done.length cd := q26
          refine ⟨rfl, ?_⟩
          refine Rg.enter_fn (args := #[.slice Ad d.done.length cd]) rfl (by simp only [List.map_toArray, List.map_cons, List.map_nil, Rg.ev, q26]) (by kernel_rfl) ?_
          refine (cloneX_dn noneAt W (fun _ h => h.elim) (.slice Ad d.done.length cd) d.done (by omega) ((slN hdb).ext hR)).mono ?_
          rintro e_ W2 ⟨m_, A5, c5, hm5, rfl, hz5, hx5⟩
          obtain rfl : m_ = d.done := hm5.out
          exact ⟨_, rfl, (hz5.flatD (X := fun j => XC X g j ∨ j = gs) (fun j hj => Nat.lt_of_lt_of_le (hXs j hj) hR.size)).sl, hR.trans' hx5, hx5⟩
        refine ⟨Rg.at_run [19, 20] rfl ?_, ?_⟩
        · intro ρ W hR ⟨q19, q20, _⟩
          replace q19 : ρ 19 = .slice (some ⟨gs, 0, none⟩) s.sess.length cS := q19
          replace q20 : ρ 20 = .int .i64 ka := q20
          refine ⟨rfl, ?_⟩
          exact Rg.run_ok (v := .pointer (some ⟨gs, ka * 3, none⟩)) (by simp [execOp, Rg.ev, go_sem, q19, q20, hb1, hb2]) ⟨rfl, hR, Ext.rfl' _⟩
        refine ⟨Rg.at_run [28] rfl ?_, ?_⟩
        · intro ρ W hR ⟨q28, _⟩
          replace q28 : ρ 28 = .pointer (some ⟨gs, ka * 3, none⟩) := q28
          refine ⟨rfl, ?_⟩
          exact Rg.run_ok (v := .pointer (some ⟨gs, ka * 3 + 2, none⟩)) (by simp [execOp, Rg.ev, go_sem, q28]) ⟨rfl, hR, Ext.rfl' _⟩
        trivial
      case en =>
        intro tm W hR hsz hk
        rw [Rg.fin_eq (ds := [18, 19, 20, 21, 22, 23, 24, 25, 26, 27, 28, 29]) rfl rfl rfl hsz hk]
        have k18 : tm.getD 18 undef = .pointer (some ⟨g, 3, none⟩) := hk 18
        have k19 : tm.getD 19 undef = .slice (some ⟨gs, 0, none⟩) s.sess.length cS := hk 19
        have k20 : tm.getD 20 undef = .int .i64 ka := hk 20
        have k21 : tm.getD 21 undef = .pointer (some ⟨g, 3, none⟩) := hk 21
        have k22 : tm.getD 22 undef = .slice (some ⟨gs, 0, none⟩) s.sess.length cS := hk 22
        have k23 : tm.getD 23 undef = .int .i64 ka := hk 23
        have k24 : tm.getD 24 undef = .pointer (some ⟨gs, ka * 3, none⟩) := hk 24
        have k25 : tm.getD 25 undef = .pointer (some ⟨gs, ka * 3 + 2, none⟩) := hk 25
        have k26 : tm.getD 26 undef = .slice Ad d.done.length cd := hk 26
        have k27 : (fun v W => Enc.Sl dnE W (fun j => XC X g j ∨ j = gs) v d.done) (tm.getD 27 undef) W := hk 27
        have k28 : tm.getD 28 undef = .pointer (some ⟨gs, ka * 3, none⟩) := hk 28
        have k29 : tm.getD 29 undef = .pointer (some ⟨gs, ka * 3 + 2, none⟩) := hk 29
        clear hk hsz
        simp only [Rg.putAll, List.setIfInBounds_toArray, List.set_cons_zero, List.set_cons_succ, k18, k19, k20, k21, k22, k23, k24, k25, k26, k28, k29]
        clear k18
        clear k19
        clear k20
        clear k21
        clear k22
        clear k23
        clear k24
        clear k25
        clear k26
        generalize tm.getD 27 undef = u27 at *
        clear k28
        clear k29
        have hgW := Nat.lt_of_lt_of_le hgl hR.size
        have f2 : W.frozen? ⟨gs, ka * 3 + 2, none⟩ = false := (hbk.ext hR).frozen _
        have p2W : W.cell? ⟨gs, ka * 3 + 2, none⟩ = some (.slice Ad d.done.length cd) := by rw [hR.cell hgl]; exact p1
        obtain ⟨A9, c9, rfl, -, -⟩ := k27.form
        have hcg9 : Chg [gs] W (W.setCell ⟨gs, ka * 3 + 2, none⟩ (.slice A9 d.done.length c9)) := (Chg.refl _ _).set (by simp) _
        have hS9 : Own 56 seE w1 (W.setCell ⟨gs, ka * 3 + 2, none⟩ (.slice A9 d.done.length c9)) noneAt (.slice (some ⟨gs, 0, none⟩) s.sess.length cS) s.sess := by
          have h := Own.cellG (hown.ext hR) (i := ka) (j := 2) HLT.out (by decide) (a := d) (u := .slice A9 d.done.length c9) (fun cs hc => by
            rw [show s.sess[ka] = d from Option.some.inj ((List.getElem?_eq_getElem HLT.out).symm.trans hds.out)] at hc
            obtain ⟨v', rfl, k1, k2, k3⟩ := se_rep.1 hc
            exact se_rep.2 ⟨_, rfl, k1, k2, k27.mono fun j _ h => h.elim (fun h => h.elim) .inr⟩)
          rw [set_sameG s.sess ka d hds.out] at h
          exact h
        have hD9 := hide (DoneTo.step HD.out hR hds.out k27 (hbk.ext hR) hcs)
        have hol9 : Own 53 lnE w1 _ (XC X g) (.slice AL s.links.length cL) s.links := Own.chgL (Own.ext hol hR) hcg9 (fun j hj hm => by obtain rfl := List.mem_singleton.1 hm; obtain ⟨css1, h1, -⟩ := hol; exact own_blk_ne h1 hbk (by decide) hj)
        clear HD
        go_wp2
        go_roundw
        case rel => exact ⟨ka + 1, by have := HLT.out; omega, by go_num, (hB.ext hR).chg hcg9 (by simp; omega), (hR_.ext hR).chg hcg9 (by simp; omega), hol9, hS9, hD9, (hxw.trans' hR).then_ hcg9 (by simp; omega)⟩
        case measure => have := HLT.out; simp [intOf]; omega
    · obtain rfl : ka = s.sess.length := by omega
      have hSF := hown.done_ HD.out hXK
      have b0 := (hB.cell 0).trans rfl
      have b1 := (hB.cell 1).trans rfl
      have b2 := (hB.cell 2).trans rfl
      have b3 := (hB.cell 3).trans rfl
      have r0 := (hR_.cell 0).trans rfl
      have r1 := (hR_.cell 1).trans rfl
      have r2 := (hR_.cell 2).trans rfl
      have r3 := (hR_.cell 3).trans rfl
      have f0 := hR_.frozen 0
      have f1 := hR_.frozen 1
      have f2 := hR_.frozen 2
      have f3 := hR_.frozen 3
      go_wp2
      try simp only [Exit.inBlock, Exit.then]
      have hcf : Chg [g + 1] wr _ := (Chg.refl [g + 1] wr).four (g := g + 1) (by simp) (.int .u64 s.now) (.int .u64 s.count) (.slice AL s.links.length cL) (.slice AS s.sess.length cS)
      refine bodyPost_ret (results_cell_row rfl _ _ (g + 1) 28 #[.int .u64 s.now, .int .u64 s.count, .slice AL s.links.length cL, .slice AS s.sess.length cS] (0, 0) _ rfl (Blk.four hR_ _ _ _ _) Tryz.underlying28 rfl (by kernel_rfl)) rfl ?_
      have hin : ∀ j, j ∈ [g + 1] → j < wr.heap.size → XC X g j := fun j hj _ => by have := List.mem_singleton.1 hj; exact .inr ⟨by omega, by omega⟩
      exact ⟨AL, cL, AS, cS, rfl, st_rep.2 ⟨_, _, rfl, hnow, hcnt, ((hol.chg hcf hin).mono fun j _ h => .inl h).sl, ((hSF.chg hcf hin).mono fun j _ h => .inl h).sl⟩, Fresh.base (Own.fresh (hol.chg hcf hin)) hsw1.out, Fresh.base (Own.fresh (hSF.chg hcf hin)) hsw1.out, hxw.then_ hcf (by simp; omega)⟩
theorem stcopied_b (X : Avoid) (s : St) (cs : List Value) (w : World) (hX : ∀ j, X j → j < w.heap.size) (hs : stE.rep w noneAt cs s) (hll : s.links.length ≤ 100000) (hsl : s.sess.length ≤ 100000) (hdl : ∀ e ∈ s.sess, e.done.length ≤ 100000) :
    Calls Tryz.prog 27 #[.agg cs.toArray] w fun e w' => RetAgg stE X w w' e s :=
  (stcopiedO_b X s cs w hX hs hll hsl hdl).mono fun _ _ h => h.agg
end Go.Proofs.YtamimdlaclglkaaGreat
namespace Go.Proofs.YtamimdlaclglkaaGreat
set_option linter.unusedVariables false
set_option linter.unusedSimpArgs false
set_option linter.unnecessarySimpa false
set_option maxRecDepth 100000
open Go.RowKit
/-- no more than -/
def leB (a b : Bytes) : Bool := Op.bytesLess a b || a == b
def Adj {α : Type} (R : α → α → Prop) (l : List α) : Prop := ∀ (i : Nat) x y, l[i]? = some x → l[i + 1]? = some y → R x y
abbrev ltL (x y : Ln) : Prop := leB y.name x.name = false
abbrev ltS (x y : Se) : Prop := x.client < y.client
abbrev ltD (x y : Dn) : Prop := x.seq < y.seq
def Ordd (s : St) : Prop := Adj ltL s.links ∧ Adj ltS s.sess ∧ ∀ (i : Nat) (x : Se), s.sess[i]? = some x → Adj ltD x.done
/-- as far as k -/
def AdjTo {α : Type} (R : α → α → Prop) (l : List α) (k : Nat) : Prop := ∀ (i : Nat) x y, i + 1 < k → l[i]? = some x → l[i + 1]? = some y → R x y
theorem AdjTo.all {α : Type} {R : α → α → Prop} {l : List α} {k : Nat} (h : AdjTo R l k) (hk : l.length ≤ k) : Adj R l := fun i x y hx hy => h i x y (by have := (List.getElem?_eq_some_iff.1 hy).1; omega) hx hy
theorem AdjTo.one {α : Type} {R : α → α → Prop} {l : List α} {k : Nat} (hk : k ≤ 1) : AdjTo R l k := fun i x y h => by omega
theorem AdjTo.succ {α : Type} {R : α → α → Prop} {l : List α} {m : Nat} {x y : α} (h : AdjTo R l (m + 1)) (hx : l[m]? = some x) (hy : l[m + 1]? = some y) (hr : R x y) : AdjTo R l (m + 2) := fun i a b hi ha hb => by
  by_cases h1 : i = m
  · subst h1
    rw [hx] at ha
    rw [hy] at hb
    cases ha
    cases hb
    exact hr
  · exact h i a b (by omega) ha hb
theorem adj_pw {α : Type} {R : α → α → Prop} (ht : ∀ a b c, R a b → R b c → R a c) {l : List α} (h : Adj R l) : l.Pairwise R := by
  rw [List.pairwise_iff_getElem]
  intro i j hi hj hij
  obtain ⟨d, rfl⟩ : ∃ d, j = i + 1 + d := ⟨j - (i + 1), by omega⟩
  induction d with
  | zero => exact h i _ _ (List.getElem?_eq_getElem hi) (List.getElem?_eq_getElem hj)
  | succ d ih =>
    have h1 : i + 1 + d < l.length := by omega
    exact ht _ _ _ (ih h1 (by omega)) (h (i + 1 + d) _ _ (List.getElem?_eq_getElem h1) (List.getElem?_eq_getElem (by omega)))
theorem Ordd.rises {s : St} (h : Ordd s) : RiseS s.sess := adj_pw (R := ltS) (fun _ _ _ h1 h2 => Int.lt_trans h1 h2) h.2.1
def RetOrd (s : St) (w w' : World) (e : Ending) : Prop := ∃ b, e = .returned (.bool b) ∧ Ext w w' ∧ (b = true ↔ Ordd s)
theorem RetOrd.no {s : St} {w w' : World} (hx : Ext w w') (h : ¬ Ordd s) : RetOrd s w w' (.returned (.bool false)) := ⟨false, rfl, hx, by simp [h]⟩
set_option maxHeartbeats 6400000 in
theorem ordered_b (s : St) (cs : List Value) (w : World) (hs : stE.rep w noneAt cs s) :
    Calls Tryz.prog 38 #[.agg cs.toArray] w fun e w' => RetOrd s w w' e := by
  obtain ⟨vl, vs, rfl, s1, s2, s3, s4⟩ := st_rep.1 hs
  obtain ⟨Al, cl, rfl, q1, q2⟩ := s3.form
  obtain ⟨As, cs', rfl, q3, q4⟩ := s4.form
  have hll : s.links.length ≤ 9223372036854775807 := Nat.le_trans q1 q2
  have hl : s.sess.length ≤ 9223372036854775807 := Nat.le_trans q3 q4
  clear q1 q2 q3 q4
  obtain ⟨L, hL⟩ : ∃ l, s.links = l := ⟨_, rfl⟩
  obtain ⟨S, hS⟩ : ∃ l, s.sess = l := ⟨_, rfl⟩
  rw [hL] at s3 hll ⊢
  rw [hS] at s4 hl ⊢
  have HL := hide hL
  have HS := hide hS
  clear hL hS hs
  have hB := Blk.new w 28 #[.int .u64 s.now, .int .u64 s.count, .slice Al L.length cl, .slice As S.length cs']
  have hx0 : Ext w (w.alloc (.cells #[.int .u64 s.now, .int .u64 s.count, .slice Al L.length cl, .slice As S.length cs'] 28)) := (Ext.rfl' w).alloc' _
  obtain ⟨g, hg⟩ : ∃ g, w.heap.size = g := ⟨_, rfl⟩
  go_enter Tryz.func38, Tryz.ntmps38
  go_wp2_with fail
  rw [hg] at hB
  generalize w.alloc (.cells #[.int .u64 s.now, .int .u64 s.count, .slice Al L.length cl, .slice As S.length cs'] 28) = w1 at *
  generalize w.heap.size = g' at *
  go_loopw [3] (fun i wr => ∃ m : Nat, (m = 0 ∨ (m : Int) + 1 ≤ L.length) ∧ i = .int .i64 ((m : Int) + 1) ∧ Hid (AdjTo ltL L (m + 1)) ∧ Ext w1 wr) (fun i _ => (L.length + 1 - intOf i).toNat)
  case atStart => exact ⟨0, .inl rfl, rfl, hide (AdjTo.one (by omega)), Ext.rfl' _⟩
  case round =>
    obtain ⟨m, hm, rfl, ha, hx⟩ := hrel
    have b2 := ((hB.ext hx).cell 2).trans rfl
    by_cases hlt : (m : Int) + 1 < L.length
    · obtain ⟨ad, x, rfl, hxk, hbk, p0, -⟩ := ln_at (s3.ext (hx0.trans' hx)) (k := m) (by omega)
      obtain ⟨ad', y, had, hyk, hbk', r0, -⟩ := ln_at (s3.ext (hx0.trans' hx)) (k := m + 1) (by omega)
      cases had
      by_cases hle : (Op.bytesLess y.name x.name || y.name == x.name) = true
      · have hno : ¬ Ordd s := fun h => by
          have h1 := h.1 m x y (by rw [HL.out]; exact hxk.out) (by rw [HL.out]; exact hyk.out)
          unfold ltL leB at h1
          rw [hle] at h1
          cases h1
        have HNO := hide hno
        clear hno
        go_wp2_with fail
        go_region
        go_wp2
        go_ret
        exact RetOrd.no ((hx0.trans' hx).drew') HNO.out
      · replace hle : (Op.bytesLess y.name x.name || y.name == x.name) = false := by simpa using hle
        have HA := hide (ha.out.succ hxk.out hyk.out hle)
        go_wp2_with fail
        go_region
        go_wp2
        go_roundw
        case rel => exact ⟨m + 1, .inr (by omega), by go_num, HA, hx.drew'⟩
        case measure => simp [intOf]; omega
    · have HA1 := hide (AdjTo.all ha.out (by omega : L.length ≤ m + 1))
      clear ha
      go_wp2_with fail
      clear hm hlt
      have hxb := hB.ext hx
      have hx1 := hx0.trans' hx
      clear hB hx0 hx b2
      generalize wr = wA at *
      go_loopw [4] (fun i w2 => ∃ (k : Nat) (I : Int), I = k ∧ (k : Int) ≤ S.length ∧ i = .int .i64 I ∧ Hid (AdjTo ltS S k) ∧ Hid (∀ (j : Nat) (x : Se), j < k → S[j]? = some x → Adj ltD x.done) ∧ Ext wA w2) (fun i _ => (S.length - intOf i).toNat)
      case atStart => exact ⟨0, 0, rfl, by omega, rfl, hide (AdjTo.one (by omega)), hide (fun j x h => by omega), Ext.rfl' _⟩
      case round =>
        obtain ⟨k, I, hI, hk, rfl, ha, hd, hxx⟩ := hrel
        have hBr := hxb.ext hxx
        have hxr := hx1.trans' hxx
        have b3 := (hBr.cell 3).trans rfl
        by_cases hlt : (k : Int) < S.length
        · obtain ⟨ad, y, v, rfl, hyk, hbk, p0, p1, p2, p3, p4, p5⟩ := se_at (s4.ext hxr) (k := k) (by omega)
          obtain ⟨Ad, cd, rfl, hdy1, hdy2⟩ := p5.form
          have hdy : y.done.length ≤ 9223372036854775807 := Nat.le_trans hdy1 hdy2
          clear hdy1 hdy2
          cases k with
          | zero =>
            obtain rfl : I = 0 := hI
            have hz : 0 < S.length := by omega
            have hz1 : (0 : Int) < S.length := by omega
            have HAK : Hid (AdjTo ltS S (0 + 1)) := hide (AdjTo.one (by omega))
            go_wp2_with fail
            go_region
            have p2z : wr.cell? ⟨ad.block, ad.off + 2, none⟩ = some (.slice Ad y.done.length cd) := p2
            have p5d := p5.ext ((Ext.rfl' wr).drew')
            have hxd := hxx.drew'
            go_wp2_with fail
            clear b3 p0 p1 p2
            have hxrd := hxr.drew'
            generalize wr.drew = wC at *
            go_loopw [6] (fun i w3 => ∃ m : Nat, (m = 0 ∨ (m : Int) + 1 ≤ y.done.length) ∧ i = .int .i64 ((m : Int) + 1) ∧ Hid (AdjTo ltD y.done (m + 1)) ∧ Ext wC w3) (fun i _ => (y.done.length + 1 - intOf i).toNat)
            case atStart => exact ⟨0, .inl rfl, rfl, hide (AdjTo.one (by omega)), Ext.rfl' _⟩
            case round =>
              obtain ⟨n, hn, rfl, hq, hxe⟩ := hrel
              by_cases hlt3 : (n : Int) + 1 < y.done.length
              · obtain ⟨ae, d, rfl, hdk, hbe, e0, -⟩ := dn_at (p5d.ext hxe) (k := n) (by omega)
                obtain ⟨ae', d', hae, hdk', hbe', f0, -⟩ := dn_at (p5d.ext hxe) (k := n + 1) (by omega)
                cases hae
                by_cases hc3 : d'.seq ≤ d.seq
                · have hno : ¬ Ordd s := fun h => by
                    have h1 := h.2.2 (0) y (by rw [HS.out]; exact hyk.out) n d d' hdk.out hdk'.out
                    unfold ltD at h1
                    omega
                  have HNO := hide hno
                  clear hno
                  go_wp2_with fail
                  go_region
                  go_wp2
                  go_ret
                  exact RetOrd.no (hxrd.trans' hxe.drew') HNO.out
                · have HQ := hide (hq.out.succ hdk.out hdk'.out (by unfold ltD; omega))
                  go_wp2_with fail
                  go_region
                  go_wp2
                  go_roundw
                  case rel => first | exact ⟨n + 1, .inr (by omega), by go_num, HQ, hxe.drew'⟩ | exact ⟨_, _, _, _, _, _, _, _, _, _, _, _, _, _, _, _, _, _, _, _, ⟨n + 1, .inr (by omega), by go_num, HQ, hxe.drew'⟩, rfl⟩
                  case measure => simp [intOf]; omega
              · have HQ := hide (AdjTo.all hq.out (by omega : y.done.length ≤ n + 1))
                have HD2 : Hid (∀ (j : Nat) (x : Se), j < 0 + 1 → S[j]? = some x → Adj ltD x.done) := hide fun j x hj hx => by
                  by_cases hjk : j = 0
                  · subst hjk
                    rw [hyk.out] at hx
                    cases hx
                    exact HQ.out
                  · exact hd.out j x (by omega) hx
                go_wp2
                go_roundw
                case rel => exact ⟨0 + 1, 0 + 1, by omega, by omega, by go_num, HAK, HD2, hxd.trans' hxe⟩
                case measure => simp [intOf]; omega
          | succ m =>
            obtain rfl : I = (m : Int) + 1 := hI
            obtain ⟨ad', x, v', had, hxk, hbk', r0, -⟩ := se_at (s4.ext hxr) (k := m) (by omega)
            cases had
            have hmp : (0 : Int) < (m : Int) + 1 := by omega
            have hlt' : (m : Int) + 1 < S.length := by omega
            by_cases hc : y.client ≤ x.client
            · have hno : ¬ Ordd s := fun h => by
                have h1 := h.2.1 m x y (by rw [HS.out]; exact hxk.out) (by rw [HS.out]; exact hyk.out)
                unfold ltS at h1
                omega
              have HNO := hide hno
              clear hno
              go_wp2_with fail
              go_region
              go_wp2
              go_ret
              exact RetOrd.no hxr.drew' HNO.out
            · have HAK := hide (ha.out.succ hxk.out hyk.out (by unfold ltS; omega))
              go_wp2_with fail
              go_region
              have p5d := p5.ext ((Ext.rfl' wr).drew')
              have hxd := hxx.drew'
              go_wp2_with fail
              clear b3 p0 p1 p2
              have hxrd := hxr.drew'
              generalize wr.drew = wC at *
              go_loopw [6] (fun i w3 => ∃ m : Nat, (m = 0 ∨ (m : Int) + 1 ≤ y.done.length) ∧ i = .int .i64 ((m : Int) + 1) ∧ Hid (AdjTo ltD y.done (m + 1)) ∧ Ext wC w3) (fun i _ => (y.done.length + 1 - intOf i).toNat)
              case atStart => exact ⟨0, .inl rfl, rfl, hide (AdjTo.one (by omega)), Ext.rfl' _⟩
              case round =>
                obtain ⟨n, hn, rfl, hq, hxe⟩ := hrel
                by_cases hlt3 : (n : Int) + 1 < y.done.length
                · obtain ⟨ae, d, rfl, hdk, hbe, e0, -⟩ := dn_at (p5d.ext hxe) (k := n) (by omega)
                  obtain ⟨ae', d', hae, hdk', hbe', f0, -⟩ := dn_at (p5d.ext hxe) (k := n + 1) (by omega)
                  cases hae
                  by_cases hc3 : d'.seq ≤ d.seq
                  · have hno : ¬ Ordd s := fun h => by
                      have h1 := h.2.2 ((m + 1)) y (by rw [HS.out]; exact hyk.out) n d d' hdk.out hdk'.out
                      unfold ltD at h1
                      omega
                    have HNO := hide hno
                    clear hno
                    go_wp2_with fail
                    go_region
                    go_wp2
                    go_ret
                    exact RetOrd.no (hxrd.trans' hxe.drew') HNO.out
                  · have HQ := hide (hq.out.succ hdk.out hdk'.out (by unfold ltD; omega))
                    go_wp2_with fail
                    go_region
                    go_wp2
                    go_roundw
                    case rel => first | exact ⟨n + 1, .inr (by omega), by go_num, HQ, hxe.drew'⟩ | exact ⟨_, _, _, _, _, _, _, _, _, _, _, _, _, _, _, _, _, _, _, _, ⟨n + 1, .inr (by omega), by go_num, HQ, hxe.drew'⟩, rfl⟩
                    case measure => simp [intOf]; omega
                · have HQ := hide (AdjTo.all hq.out (by omega : y.done.length ≤ n + 1))
                  have HD2 : Hid (∀ (j : Nat) (x : Se), j < (m + 1) + 1 → S[j]? = some x → Adj ltD x.done) := hide fun j x hj hx => by
                    by_cases hjk : j = (m + 1)
                    · subst hjk
                      rw [hyk.out] at hx
                      cases hx
                      exact HQ.out
                    · exact hd.out j x (by omega) hx
                  go_wp2
                  go_roundw
                  case rel => exact ⟨(m + 1) + 1, (m + 1) + 1, by omega, by omega, by go_num, HAK, HD2, hxd.trans' hxe⟩
                  case measure => simp [intOf]; omega
        · have HA2 := hide (AdjTo.all ha.out (by omega : S.length ≤ k))
          have HD2 : Hid (∀ (j : Nat) (x : Se), S[j]? = some x → Adj ltD x.done) := hide fun j x hx => hd.out j x (by have := (List.getElem?_eq_some_iff.1 hx).1; omega) hx
          subst hI
          go_wp2_with fail
          go_ret
          refine ⟨true, rfl, hxr, ⟨fun _ => ⟨by rw [HL.out]; exact HA1.out, by rw [HS.out]; exact HA2.out, by rw [HS.out]; exact HD2.out⟩, fun _ => rfl⟩⟩
end Go.Proofs.YtamimdlaclglkaaGreat
