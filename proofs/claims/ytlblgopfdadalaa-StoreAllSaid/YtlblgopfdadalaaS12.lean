/- A part of the proof of 'StoreAll'. -/
import Derived.Test.YtlblgopfdadalaaS11
import Derived.Test.YtlblgopfdadalaaS9
import Derived.Deep.DeepCutAuto
import Derived.StillTailTactics
namespace Go.Proofs.Ytlblgopfdadalaa
set_option linter.unusedVariables false
set_option linter.unusedSimpArgs false
set_option linter.unnecessarySimpa false
set_option maxRecDepth 100000
open Go.RowKit
abbrev XK (X : Avoid) (g : Nat) : Avoid := fun j => X j ∨ (g ≤ j ∧ j ≤ g + 1)
/-- a copy: its bytes and its entries lie in new memory -/
def RetKp (X : Avoid) (w w' : World) (e : Ending) (k : Kp) : Prop := ∃ (As : Option Addr) (cs : Nat) (Ae : Option Addr) (ce : Nat), e = .returned (.agg #[.int .u64 k.hard.term, .int .i64 k.hard.vote, .int .u64 k.snap.index, .int .u64 k.snap.term, .slice As k.snap.state.length cs, .slice Ae k.ents.length ce]) ∧
  Enc.BsX w' (fun j => X j ∨ (Value.slice Ae k.ents.length ce).ownBlock = some j) (.slice As k.snap.state.length cs) k.snap.state ∧ Own 74 enE w w' X (.slice Ae k.ents.length ce) k.ents ∧ Ext w w'
theorem two_alK (W : World) (T1 T2 : TypeId) (c1 c2 : Array Value) : Blk ((W.alloc (.cells c1 T1)).alloc (.cells c2 T2)) W.heap.size T1 c1 ∧ Blk ((W.alloc (.cells c1 T1)).alloc (.cells c2 T2)) (W.heap.size + 1) T2 c2 ∧ Ext W ((W.alloc (.cells c1 T1)).alloc (.cells c2 T2)) := by
  have h2 := Blk.new (W.alloc (.cells c1 T1)) T2 c2
  rw [show (W.alloc (.cells c1 T1)).heap.size = W.heap.size + 1 by simp] at h2
  exact ⟨(Blk.new W T1 c1).alloc _, h2, ((Ext.rfl' W).alloc' _).alloc' _⟩
theorem kp_apart {X Y : Avoid} {w0 w1 w : World} {v ve : Value} {l : Bytes} {es : List En} (h : Nw w1 w v l) (ho : Own 74 enE w0 w Y ve es) (hX : ∀ j, X j → j < w1.heap.size) : Enc.BsX w (fun j => X j ∨ ve.ownBlock = some j) v l := by
  refine ⟨h.bs, fun ad n c he h0 hx => ?_⟩
  rcases hx with hx | hx
  · have h1 := (h.lt ad.block (by rw [he]; rfl)).1
    have := hX _ hx
    omega
  · have hne : 0 < es.length := by
      rcases Nat.eq_zero_or_pos es.length with hz | hz
      · obtain ⟨css, ⟨_, h1⟩, -⟩ := ho
        rcases h1 with ⟨h1, _⟩ | ⟨g, cap, cur, h1, hg, hh, -⟩
        · rw [h1] at hx; cases hx
        · rw [h1] at hx
          obtain rfl : g = ad.block := Option.some.inj hx
          exact absurd (by rw [he]; rfl) (own_blk_ne h (t := 74) hh (by decide))
      · exact hz
    obtain ⟨g, cap, cur, css, rfl, hB, -⟩ := ho.openG hne
    obtain rfl : g = ad.block := Option.some.inj hx
    exact own_blk_ne h hB (by decide) (by rw [he]; rfl)
set_option maxHeartbeats 6400000 in
theorem copied_b (X : Avoid) (k : Kp) (vs ve : Value) (w : World) (hX : ∀ j, X j → j < w.heap.size) (hkw : k.wide) (hs : Enc.BsX w X vs k.snap.state) (he : Enc.Sl enE w X ve k.ents) (hl : k.ents.length ≤ 100000) (hsl : k.snap.state.length ≤ 1000000) (hdl : ∀ e ∈ k.ents, e.data.length ≤ 1000000) :
    Calls Try.prog 68 #[.agg (kpcells k vs ve).toArray] w fun e w' => RetKp X w w' e k := by
  obtain ⟨As0, cS0, rfl, -, -, -⟩ := id hs.1
  obtain ⟨Ae0, cE0, rfl, -, -⟩ := he.form
  obtain ⟨hB, hR_, hxw⟩ := two_alK w 53 53 (kpcells k (.slice As0 k.snap.state.length cS0) (.slice Ae0 k.ents.length cE0)).toArray #[.int .u64 0, .int .i64 0, .int .u64 0, .int .u64 0, .slice none 0 0, .slice none 0 0]
  obtain ⟨g, hg⟩ : ∃ g, w.heap.size = g := ⟨_, rfl⟩
  rw [hg] at hB hR_
  have hXl : ∀ j, X j → j < g := fun j hj => by rw [← hg]; exact hX j hj
  go_enter Try.func68, Try.ntmps68
  go_upto_region 1 with fail
  generalize ((w.alloc (.cells (kpcells k (.slice As0 k.snap.state.length cS0) (.slice Ae0 k.ents.length cE0)).toArray 53)).alloc (.cells #[.int .u64 0, .int .i64 0, .int .u64 0, .int .u64 0, .slice none 0 0, .slice none 0 0] 53)) = w1 at *
  try rw [hg]
  have hXK : ∀ W, Ext w1 W → ∀ j, XK X g j → j < W.heap.size := fun W hx j hj => by
    have h1 := hR_.lt
    have h2 := hx.size
    rcases hj with h | h
    · have := hXl j h; omega
    · omega
  have hs1 := (hs.mono (Y := XK X g) (fun j hj h => h.elim id fun h => by omega)).ext hxw
  have he1 := (he.mono (Y := XK X g) (fun j hj h => h.elim id fun h => by omega)).ext hxw
  have b4 := (hB.cell 4).trans rfl
  go_wp2_with fail
  refine (clone_b (.slice As0 k.snap.state.length cS0) k.snap.state w1 (by omega) hs1.1).mono ?_
  rintro e W2 ⟨m, As, cS, hm, rfl, hz, hx2⟩
  obtain rfl : m = k.snap.state := hm.out
  clear b4 hm
  replace hB := hB.ext hx2
  have f4 := hB.frozen 4
  have d4 := (hB.cell 4).trans rfl
  have hcg : Chg [g] W2 (W2.setCell ⟨g, 4, none⟩ (.slice As k.snap.state.length cS)) := (Chg.refl _ _).set (by simp) _
  replace hB := hB.set_ 4 (.slice As k.snap.state.length cS)
  change Blk _ g _ #[.int .u64 k.hard.term, .int .i64 k.hard.vote, .int .u64 k.snap.index, .int .u64 k.snap.term, .slice As k.snap.state.length cS, .slice Ae0 k.ents.length cE0] at hB
  replace hR_ := (hR_.ext hx2).chg hcg (by simp)
  replace he1 := (he1.ext hx2).chg hcg (fun j hj _ => .inr (by have := List.mem_singleton.1 hj; omega))
  have hbs : Nw w1 _ (.slice As k.snap.state.length cS) k.snap.state := hz.chg hcg (fun j hj hm => by have h1 := (hz.lt j hj).1; have h2 := List.mem_singleton.1 hm; have h3 := hXK w1 (Ext.rfl' _) g (.inr ⟨by omega, by omega⟩); omega)
  replace hxw := (hxw.trans' hx2).then_ hcg (by simp; omega)
  go_upto_region 2 with fail
  generalize W2.setCell ⟨g, 4, none⟩ (.slice As k.snap.state.length cS) = W3 at *
  clear hcg f4 d4 hx2 hz hs1
  have hXK3 : ∀ j, XK X g j → j < W3.heap.size := fun j hj => by
    have h1 := hR_.lt
    rcases hj with h | h
    · have := hXl j h; omega
    · omega
  have b5 := (hB.cell 5).trans rfl
  go_wp2_with fail
  refine (cloneX_en (XK X g) W3 hXK3 (.slice Ae0 k.ents.length cE0) k.ents hl he1).mono ?_
  rintro e W4 ⟨AE, cE, rfl, hown, hx4⟩
  clear b5
  replace hB := hB.ext hx4
  have f5 := hB.frozen 5
  have d5 := (hB.cell 5).trans rfl
  have hcg : Chg [g] W4 (W4.setCell ⟨g, 5, none⟩ (.slice AE k.ents.length cE)) := (Chg.refl _ _).set (by simp) _
  replace hB := hB.set_ 5 (.slice AE k.ents.length cE)
  change Blk _ g _ #[.int .u64 k.hard.term, .int .i64 k.hard.vote, .int .u64 k.snap.index, .int .u64 k.snap.term, .slice As k.snap.state.length cS, .slice AE k.ents.length cE] at hB
  replace hR_ := (hR_.ext hx4).chg hcg (by simp)
  replace hbs : Nw w1 _ (.slice As k.snap.state.length cS) k.snap.state := Nw.chg (own_ext hbs hx4) hcg (fun j hj hm => by have h1 := (hbs.lt j hj).1; have h2 := List.mem_singleton.1 hm; have h3 := hXK w1 (Ext.rfl' _) g (.inr ⟨by omega, by omega⟩); omega)
  replace hown := hown.chg hcg (fun j hj _ => .inr (by have := List.mem_singleton.1 hj; omega))
  have hown0 : Own 74 enE w _ (XK X g) (.slice AE k.ents.length cE) k.ents := hown.base hxw.size
  replace hxw := (hxw.trans' hx4).then_ hcg (by simp; omega)
  go_upto_region 3 with fail
  generalize W4.setCell ⟨g, 5, none⟩ (.slice AE k.ents.length cE) = W5 at *
  clear hcg f5 d5 hx4 he1 hown hXK3
  have b5 := (hB.cell 5).trans rfl
  go_wp2_with fail
  go_loopw [17] (fun i wr => ∃ ka : Nat, ka ≤ k.ents.length ∧ i = .int .i64 ka ∧ Blk wr g 53 #[.int .u64 k.hard.term, .int .i64 k.hard.vote, .int .u64 k.snap.index, .int .u64 k.snap.term, .slice As k.snap.state.length cS, .slice AE k.ents.length cE] ∧
      Blk wr (g + 1) 53 #[.int .u64 0, .int .i64 0, .int .u64 0, .int .u64 0, .slice none 0 0, .slice none 0 0] ∧ Nw w1 wr (.slice As k.snap.state.length cS) k.snap.state ∧ Own 74 enE w wr (XK X g) (.slice AE k.ents.length cE) k.ents ∧ Ext w wr) (fun i _ => (k.ents.length - intOf i).toNat)
  case atStart => exact ⟨0, by omega, rfl, hB, hR_, hbs, hown0, hxw⟩
  case round =>
    clear hB hR_ hbs hown0 hxw b5
    obtain ⟨ka, hka, rfl, hB, hR_, hbs, hown, hxw⟩ := hrel
    by_cases hlt : ka < k.ents.length
    · obtain ⟨gs, cap2, cur, css, hv, hbk, hgs, -, -, -, -, -, hXg⟩ := hown.openG (by omega)
      simp only [Value.slice.injEq, true_and] at hv
      obtain ⟨rfl, rfl⟩ := hv
      obtain ⟨d, ds, hds, hgl, hrep, hcell⟩ := own_cellsG hown hlt
      obtain ⟨vd, rfl, hdt, hdb⟩ := en_rep.1 hrep
      have hdm := hdl d (List.mem_of_getElem? hds.out)
      obtain ⟨Ad, cd, rfl, -, -, -⟩ := id hdb.1
      have p1 : wr.cell? ⟨gs, ka * 2 + 1, none⟩ = some (.slice Ad d.data.length cd) := hcell 1 _ rfl
      have hXs : ∀ j, (XK X g j ∨ j = gs) → j < wr.heap.size := fun j hj => by
        have h1 := hR_.lt
        rcases hj with (h | h) | h
        · have := hXl j h; omega
        · omega
        · rw [h]; exact hgl
      have hb1 : (0 : Int) ≤ ka := by omega
      have hb2 : (ka : Int) < k.ents.length := by omega
      have HLT := hide hlt
      clear hlt hcell hrep
      go_wp2
      refine Rg.regionT Try.checked.mixed 34 12 (by kernel_rfl) [
        (fun x_ _ => x_ = .pointer (some ⟨g, 5, none⟩)),
        (fun x_ _ => x_ = .slice (some ⟨gs, 0, none⟩) k.ents.length cE),
        (fun x_ _ => x_ = .int .i64 ka),
        (fun x_ _ => x_ = .pointer (some ⟨g, 5, none⟩)),
        (fun x_ _ => x_ = .slice (some ⟨gs, 0, none⟩) k.ents.length cE),
        (fun x_ _ => x_ = .int .i64 ka),
        (fun x_ _ => x_ = .pointer (some ⟨gs, ka * 2, none⟩)),
        (fun x_ _ => x_ = .pointer (some ⟨gs, ka * 2 + 1, none⟩)),
        (fun x_ _ => x_ = .slice Ad d.data.length cd),
        (fun v W => Enc.BsX W (fun j => XK X g j ∨ j = gs) v d.data),
        (fun x_ _ => x_ = .pointer (some ⟨gs, ka * 2, none⟩)),
        (fun x_ _ => x_ = .pointer (some ⟨gs, ka * 2 + 1, none⟩))] (fun W => Ext wr W) Ext rfl rfl rfl
        ?st ((Ext.rfl' wr).drew') ?ob ?en
      case st => exact ⟨fun _ _ _ h _ => h, fun _ _ _ h _ => h, fun _ _ _ h _ => h, fun _ _ _ h _ => h, fun _ _ _ h _ => h, fun _ _ _ h _ => h, fun _ _ _ h _ => h, fun _ _ _ h _ => h, fun _ _ _ h _ => h, fun _ _ _ h hx => h.ext hx, fun _ _ _ h _ => h, fun _ _ _ h _ => h, trivial⟩
      case ob =>
        refine ⟨Rg.at_run [1] rfl ?_, ?_⟩
        · intro ρ W hR ⟨q1, _⟩
          replace q1 : ρ 1 = .pointer (some ⟨g, 0, none⟩) := q1
          refine ⟨rfl, ?_⟩
          exact Rg.run_ok (v := .pointer (some ⟨g, 5, none⟩)) (by simp [execOp, Rg.ev, go_sem, q1]) ⟨rfl, hR, Ext.rfl' _⟩
        refine ⟨Rg.at_run [20] rfl ?_, ?_⟩
        · intro ρ W hR ⟨q20, _⟩
          replace q20 : ρ 20 = .pointer (some ⟨g, 5, none⟩) := q20
          refine ⟨rfl, ?_⟩
          have c5_ : W.cell? ⟨g, 5, none⟩ = some (.slice (some ⟨gs, 0, none⟩) k.ents.length cE) := ((hB.ext hR).cell 5).trans rfl
          exact Rg.run_ok (v := .slice (some ⟨gs, 0, none⟩) k.ents.length cE) (by simp [execOp, Rg.ev, go_sem, q20, c5_]) ⟨rfl, hR, Ext.rfl' _⟩
        refine ⟨Rg.at_run [3] rfl ?_, ?_⟩
        · intro ρ W hR ⟨q3, _⟩
          replace q3 : ρ 3 = .int .i64 ka := q3
          refine ⟨rfl, ?_⟩
          exact Rg.run_ok (v := .int .i64 ka) (by simp [execOp, Rg.ev, go_sem, q3]) ⟨rfl, hR, Ext.rfl' _⟩
        refine ⟨Rg.at_run [1] rfl ?_, ?_⟩
        · intro ρ W hR ⟨q1, _⟩
          replace q1 : ρ 1 = .pointer (some ⟨g, 0, none⟩) := q1
          refine ⟨rfl, ?_⟩
          exact Rg.run_ok (v := .pointer (some ⟨g, 5, none⟩)) (by simp [execOp, Rg.ev, go_sem, q1]) ⟨rfl, hR, Ext.rfl' _⟩
        refine ⟨Rg.at_run [23] rfl ?_, ?_⟩
        · intro ρ W hR ⟨q23, _⟩
          replace q23 : ρ 23 = .pointer (some ⟨g, 5, none⟩) := q23
          refine ⟨rfl, ?_⟩
          have c5_ : W.cell? ⟨g, 5, none⟩ = some (.slice (some ⟨gs, 0, none⟩) k.ents.length cE) := ((hB.ext hR).cell 5).trans rfl
          exact Rg.run_ok (v := .slice (some ⟨gs, 0, none⟩) k.ents.length cE) (by simp [execOp, Rg.ev, go_sem, q23, c5_]) ⟨rfl, hR, Ext.rfl' _⟩
        refine ⟨Rg.at_run [3] rfl ?_, ?_⟩
        · intro ρ W hR ⟨q3, _⟩
          replace q3 : ρ 3 = .int .i64 ka := q3
          refine ⟨rfl, ?_⟩
          exact Rg.run_ok (v := .int .i64 ka) (by simp [execOp, Rg.ev, go_sem, q3]) ⟨rfl, hR, Ext.rfl' _⟩
        refine ⟨Rg.at_run [24, 25] rfl ?_, ?_⟩
        · intro ρ W hR ⟨q24, q25, _⟩
          replace q24 : ρ 24 = .slice (some ⟨gs, 0, none⟩) k.ents.length cE := q24
          replace q25 : ρ 25 = .int .i64 ka := q25
          refine ⟨rfl, ?_⟩
          exact Rg.run_ok (v := .pointer (some ⟨gs, ka * 2, none⟩)) (by simp [execOp, Rg.ev, go_sem, q24, q25, hb1, hb2]) ⟨rfl, hR, Ext.rfl' _⟩
        refine ⟨Rg.at_run [26] rfl ?_, ?_⟩
        · intro ρ W hR ⟨q26, _⟩
          replace q26 : ρ 26 = .pointer (some ⟨gs, ka * 2, none⟩) := q26
          refine ⟨rfl, ?_⟩
          exact Rg.run_ok (v := .pointer (some ⟨gs, ka * 2 + 1, none⟩)) (by simp [execOp, Rg.ev, go_sem, q26]) ⟨rfl, hR, Ext.rfl' _⟩
        refine ⟨Rg.at_run [27] rfl ?_, ?_⟩
        · intro ρ W hR ⟨q27, _⟩
          replace q27 : ρ 27 = .pointer (some ⟨gs, ka * 2 + 1, none⟩) := q27
          refine ⟨rfl, ?_⟩
          have c_ : W.cell? ⟨gs, ka * 2 + 1, none⟩ = some (.slice Ad d.data.length cd) := by rw [hR.cell hgl]; exact p1
          exact Rg.run_ok (v := .slice Ad d.data.length cd) (by simp [execOp, Rg.ev, go_sem, q27, c_]) ⟨rfl, hR, Ext.rfl' _⟩
        refine ⟨Rg.at_run [28] rfl ?_, ?_⟩
        · intro ρ W hR ⟨q28, _⟩
          replace q28 : ρ 28 = .slice Ad d.data.length cd := q28
          refine ⟨rfl, ?_⟩
          refine Rg.enter_fn (args := #[.slice Ad d.data.length cd]) rfl (by simp only [List.map_toArray, List.map_cons, List.map_nil, Rg.ev, q28]) (by kernel_rfl) ?_
          refine (clone_b (.slice Ad d.data.length cd) d.data W (by omega) (hdb.1.ext hR)).mono ?_
          rintro e_ W2 ⟨m_, A5, c5, hm5, rfl, hz5, hx5⟩
          obtain rfl : m_ = d.data := hm5.out
          exact ⟨_, rfl, Enc.BsX.nw hz5 (fun j hj => Nat.lt_of_lt_of_le (hXs j hj) hR.size), hR.trans' hx5, hx5⟩
        refine ⟨Rg.at_run [21, 22] rfl ?_, ?_⟩
        · intro ρ W hR ⟨q21, q22, _⟩
          replace q21 : ρ 21 = .slice (some ⟨gs, 0, none⟩) k.ents.length cE := q21
          replace q22 : ρ 22 = .int .i64 ka := q22
          refine ⟨rfl, ?_⟩
          exact Rg.run_ok (v := .pointer (some ⟨gs, ka * 2, none⟩)) (by simp [execOp, Rg.ev, go_sem, q21, q22, hb1, hb2]) ⟨rfl, hR, Ext.rfl' _⟩
        refine ⟨Rg.at_run [30] rfl ?_, ?_⟩
        · intro ρ W hR ⟨q30, _⟩
          replace q30 : ρ 30 = .pointer (some ⟨gs, ka * 2, none⟩) := q30
          refine ⟨rfl, ?_⟩
          exact Rg.run_ok (v := .pointer (some ⟨gs, ka * 2 + 1, none⟩)) (by simp [execOp, Rg.ev, go_sem, q30]) ⟨rfl, hR, Ext.rfl' _⟩
        trivial
      case en =>
        intro tm W hR hsz hk
        rw [Rg.fin_eq (ds := [20, 21, 22, 23, 24, 25, 26, 27, 28, 29, 30, 31]) rfl rfl rfl hsz hk]
        have k20 : tm.getD 20 undef = .pointer (some ⟨g, 5, none⟩) := hk 20
        have k21 : tm.getD 21 undef = .slice (some ⟨gs, 0, none⟩) k.ents.length cE := hk 21
        have k22 : tm.getD 22 undef = .int .i64 ka := hk 22
        have k23 : tm.getD 23 undef = .pointer (some ⟨g, 5, none⟩) := hk 23
        have k24 : tm.getD 24 undef = .slice (some ⟨gs, 0, none⟩) k.ents.length cE := hk 24
        have k25 : tm.getD 25 undef = .int .i64 ka := hk 25
        have k26 : tm.getD 26 undef = .pointer (some ⟨gs, ka * 2, none⟩) := hk 26
        have k27 : tm.getD 27 undef = .pointer (some ⟨gs, ka * 2 + 1, none⟩) := hk 27
        have k28 : tm.getD 28 undef = .slice Ad d.data.length cd := hk 28
        have k29 : (fun v W => Enc.BsX W (fun j => XK X g j ∨ j = gs) v d.data) (tm.getD 29 undef) W := hk 29
        have k30 : tm.getD 30 undef = .pointer (some ⟨gs, ka * 2, none⟩) := hk 30
        have k31 : tm.getD 31 undef = .pointer (some ⟨gs, ka * 2 + 1, none⟩) := hk 31
        clear hk hsz
        simp only [Rg.putAll, List.setIfInBounds_toArray, List.set_cons_zero, List.set_cons_succ, k20, k21, k22, k23, k24, k25, k26, k27, k28, k30, k31]
        clear k20
        clear k21
        clear k22
        clear k23
        clear k24
        clear k25
        clear k26
        clear k27
        clear k28
        generalize tm.getD 29 undef = u29 at *
        clear k30
        clear k31
        have hgW := Nat.lt_of_lt_of_le hgl hR.size
        have f2 : W.frozen? ⟨gs, ka * 2 + 1, none⟩ = false := (hbk.ext hR).frozen _
        have p2W : W.cell? ⟨gs, ka * 2 + 1, none⟩ = some (.slice Ad d.data.length cd) := by rw [hR.cell hgl]; exact p1
        obtain ⟨A9, c9, rfl, -, -, -⟩ := id k29.1
        have hcg9 : Chg [gs] W (W.setCell ⟨gs, ka * 2 + 1, none⟩ (.slice A9 d.data.length c9)) := (Chg.refl _ _).set (by simp) _
        have hne : g ≠ gs := fun h => hXg (.inr ⟨by omega, by omega⟩)
        have hne1 : g + 1 ≠ gs := fun h => hXg (.inr ⟨by omega, by omega⟩)
        have hS9 : Own 74 enE w (W.setCell ⟨gs, ka * 2 + 1, none⟩ (.slice A9 d.data.length c9)) (XK X g) (.slice (some ⟨gs, 0, none⟩) k.ents.length cE) k.ents := by
          have h := Own.cellG (hown.ext hR) (i := ka) (j := 1) HLT.out (by decide) (a := d) (u := .slice A9 d.data.length c9) (fun cs hc => by
            rw [show k.ents[ka] = d from Option.some.inj ((List.getElem?_eq_getElem HLT.out).symm.trans hds.out)] at hc
            obtain ⟨v', rfl, -, -⟩ := en_rep.1 hc
            exact en_rep.2 ⟨_, rfl, hdt, k29⟩)
          rw [set_sameG k.ents ka d hds.out] at h
          exact h
        go_wp2
        go_roundw
        case rel => exact ⟨ka + 1, by have := HLT.out; omega, by go_num, (hB.ext hR).chg hcg9 (by simpa using hne), (hR_.ext hR).chg hcg9 (by simpa using hne1), Nw.chg (own_ext hbs hR) hcg9 (fun j hj hm => by have h2 := List.mem_singleton.1 hm; subst h2; exact own_blk_ne (own_ext hbs hR) (hbk.ext hR) (by decide) hj), hS9, (hxw.trans' hR).then_ hcg9 (by simpa using hgs)⟩
        case measure => have := HLT.out; simp [intOf]; omega
    · obtain rfl : ka = k.ents.length := by omega
      have b0 := (hB.cell 0).trans rfl
      have b1 := (hB.cell 1).trans rfl
      have b2 := (hB.cell 2).trans rfl
      have b3 := (hB.cell 3).trans rfl
      have b4 := (hB.cell 4).trans rfl
      have b5 := (hB.cell 5).trans rfl
      have r0 := (hR_.cell 0).trans rfl
      have r1 := (hR_.cell 1).trans rfl
      have r2 := (hR_.cell 2).trans rfl
      have r3 := (hR_.cell 3).trans rfl
      have r4 := (hR_.cell 4).trans rfl
      have r5 := (hR_.cell 5).trans rfl
      have f0 := hR_.frozen 0
      have f1 := hR_.frozen 1
      have f2 := hR_.frozen 2
      have f3 := hR_.frozen 3
      have f4 := hR_.frozen 4
      have f5 := hR_.frozen 5
      go_wp2
      try simp only [Exit.inBlock, Exit.then]
      have hcf : Chg [g + 1] wr _ := (Chg.refl [g + 1] wr).sixK (g := g + 1) (by simp) (.int .u64 k.hard.term) (.int .i64 k.hard.vote) (.int .u64 k.snap.index) (.int .u64 k.snap.term) (.slice As k.snap.state.length cS) (.slice AE k.ents.length cE)
      refine bodyPost_ret (results_cell_row rfl _ _ (g + 1) 53 #[.int .u64 k.hard.term, .int .i64 k.hard.vote, .int .u64 k.snap.index, .int .u64 k.snap.term, .slice As k.snap.state.length cS, .slice AE k.ents.length cE] (0, 0) _ rfl (Blk.sixK hR_ _ _ _ _ _ _) Try.underlying53 rfl (by kernel_rfl)) rfl ?_
      exact ⟨As, cS, AE, cE, rfl, (kp_apart (Nw.chg hbs hcf (fun j hj hm => by have h1 := (hbs.lt j hj).1; have h2 := List.mem_singleton.1 hm; have h3 := hXK w1 (Ext.rfl' _) (g + 1) (.inr ⟨by omega, by omega⟩); omega)) (hown.chg hcf (fun j hj _ => .inr (by have := List.mem_singleton.1 hj; omega))) (fun j hj => hXK w1 (Ext.rfl' _) j (.inl hj))), (hown.chg hcf (fun j hj _ => .inr (by have := List.mem_singleton.1 hj; omega))).mono fun j _ h => .inl h, hxw.then_ hcf (by simp; omega)⟩
end Go.Proofs.Ytlblgopfdadalaa
namespace Go.Proofs.Ytlblgopfdadalaa
set_option linter.unusedVariables false
set_option linter.unusedSimpArgs false
set_option linter.unnecessarySimpa false
set_option maxRecDepth 100000
open Go.RowKit
/-- a folder in block g: its bytes lie elsewhere, its entries in new memory -/
def FoV (X : Avoid) (w0 W : World) (g : Nat) (k : Kp) (As : Option Addr) (cs : Nat) (Ae : Option Addr) (ce : Nat) : Prop :=
  Blk W g 130 #[.int .u64 k.hard.term, .int .i64 k.hard.vote, .int .u64 k.snap.index, .int .u64 k.snap.term, .slice As k.snap.state.length cs, .slice Ae k.ents.length ce] ∧ Enc.BsX W (fun j => (X j ∨ j = g) ∨ (Value.slice Ae k.ents.length ce).ownBlock = some j) (.slice As k.snap.state.length cs) k.snap.state ∧ OwnO 74 enE w0 W (fun j => X j ∨ j = g) (.slice Ae k.ents.length ce) k.ents
def FoAt (X : Avoid) (w0 W : World) (g : Nat) (k : Kp) : Prop := ∃ As cs Ae ce, FoV X w0 W g k As cs Ae ce
theorem FoAt.ext {X : Avoid} {w0 W W' : World} {g : Nat} {k : Kp} (h : FoAt X w0 W g k) (hx : Ext W W') : FoAt X w0 W' g k := by
  obtain ⟨As, cs, Ae, ce, h1, h2, h3⟩ := h
  exact ⟨As, cs, Ae, ce, h1.ext hx, h2.ext hx, h3.ext hx⟩
theorem FoAt.lt {X : Avoid} {w0 W : World} {g : Nat} {k : Kp} (h : FoAt X w0 W g k) : g < W.heap.size := by
  obtain ⟨As, cs, Ae, ce, h1, -⟩ := h
  exact h1.lt
/-- the entries are written over -/
theorem FoV.ents {X : Avoid} {w0 W : World} {g : Nat} {k : Kp} {As Ae : Option Addr} {cs ce : Nat} (h : FoV X w0 W g k As cs Ae ce) {A : Option Addr} {n c : Nat} {l : List En} (hn : n = l.length) (hob : ∀ j, (Value.slice A l.length c).ownBlock = some j → (Value.slice Ae k.ents.length ce).ownBlock = some j) (ho : OwnO 74 enE w0 W (fun j => X j ∨ j = g) (.slice A l.length c) l) :
    FoV X w0 (W.setCell ⟨g, 5, none⟩ (.slice A n c)) g ⟨k.hard, k.snap, l⟩ As cs A c ∧ Chg [g] W (W.setCell ⟨g, 5, none⟩ (.slice A n c)) := by
  subst hn
  have hcg : Chg [g] W (W.setCell ⟨g, 5, none⟩ (.slice A l.length c)) := (Chg.refl _ _).set (by simp) _
  exact ⟨⟨h.1.set_ 5 _, (h.2.1.mono (fun j _ hj => hj.elim .inl fun h => .inr (hob j h))).chg hcg (fun j hj _ => .inl (.inr (List.mem_singleton.1 hj))), ho.chg hcg (fun j hj _ => .inr (List.mem_singleton.1 hj))⟩, hcg⟩
set_option maxHeartbeats 3200000 in
theorem focut_b (X : Avoid) (w0 : World) (g : Nat) (k : Kp) (i : Int) (w : World) (h : FoAt X w0 w g k) (hk : k.wide) (hi : 0 ≤ i ∧ i ≤ 18446744073709551615) :
    Calls Try.prog 103 #[.pointer (some ⟨g, 0, none⟩), .int .u64 i] w fun e w' => e = .returned (.tuple #[]) ∧ FoAt X w0 w' g ⟨k.hard, k.snap, k.ents.take (kcutN k i)⟩ ∧ Chg [g] w w' := by
  obtain ⟨As, cs, Ae, ce, hF⟩ := h
  have hB := hF.1
  obtain ⟨A', c', he', hle, hce⟩ := hF.2.2.form
  simp only [Value.slice.injEq, true_and] at he'
  obtain ⟨rfl, rfl⟩ := he'
  simp only [maxLen] at hce
  have b2 := (hB.cell 2).trans rfl
  have b5 := (hB.cell 5).trans rfl
  have hconv : IntKind.u64.wrap (k.ents.length : Int) = k.ents.length := IntWalk.u64_in _ ⟨by omega, by omega⟩
  have hn0 := hk.n0
  by_cases h0 : i ≤ k.snap.index
  · have HK : Hid (kcutN k i = 0) := if_pos h0
    have f5 := hB.frozen 5
    go_enter Try.func103, Try.ntmps103
    go_wp2
    go_end0
    obtain ⟨h1, h2⟩ := hF.ents (A := none) (n := 0) (c := 0) (l := []) rfl (fun j h => by cases h) (OwnO.nil _ _ _ _ _)
    refine ⟨rfl, ⟨As, cs, none, 0, ?_⟩, h2⟩
    rw [HK.out, List.take_zero]
    exact h1
  · have hw1 : IntKind.u64.wrap (i - k.snap.index) = i - k.snap.index := IntWalk.u64_in _ ⟨by omega, by omega⟩
    obtain ⟨m, hm⟩ : ∃ m : Nat, i - k.snap.index - 1 = (m : Int) := ⟨(i - k.snap.index - 1).toNat, by omega⟩
    have hw2 : IntKind.u64.wrap (i - k.snap.index - 1) = (m : Int) := by rw [hm]; exact IntWalk.u64_in _ ⟨by omega, by omega⟩
    have HK : Hid (kcutN k i = min k.ents.length m) := hide (by unfold kcutN; rw [if_neg h0, hm]; rfl)
    have HM := hide hm
    clear hm
    by_cases hlt : (m : Int) < k.ents.length
    · obtain ⟨i0, hi0, hz0, hz1, hz2⟩ := info_parts elt_en.info
      have hml : m ≤ k.ents.length := by omega
      have hmc : m ≤ ce := by omega
      go_enter Try.func103, Try.ntmps103
      go_upto_region 4 with fail
      refine Rg.regionT Try.checked.mixed 54 19 (by kernel_rfl) [
        (fun x_ _ => x_ = .pointer (some ⟨g, 0, none⟩)),
        (fun x_ _ => x_ = .pointer (some ⟨g, 0, none⟩)),
        (fun x_ _ => x_ = .pointer (some ⟨g, 0, none⟩)),
        (fun x_ _ => x_ = .pointer (some ⟨g, 0, none⟩)),
        (fun x_ _ => x_ = .pointer (some ⟨g, 5, none⟩)),
        (fun x_ _ => x_ = .slice Ae k.ents.length ce),
        (fun x_ _ => x_ = .int .u64 i),
        (fun x_ _ => x_ = .pointer (some ⟨g, 0, none⟩)),
        (fun x_ _ => x_ = .pointer (some ⟨g, 0, none⟩)),
        (fun x_ _ => x_ = .pointer (some ⟨g, 0, none⟩)),
        (fun x_ _ => x_ = .pointer (some ⟨g, 2, none⟩)),
        (fun x_ _ => x_ = .pointer (some ⟨g, 2, none⟩)),
        (fun x_ _ => x_ = .int .u64 k.snap.index),
        (fun x_ _ => x_ = .int .u64 (i - k.snap.index)),
        (fun x_ _ => x_ = .int .u64 (m : Nat)),
        (fun x_ _ => x_ = .slice Ae m ce),
        (fun x_ _ => x_ = .pointer (some ⟨g, 0, none⟩)),
        (fun x_ _ => x_ = .pointer (some ⟨g, 0, none⟩)),
        (fun x_ _ => x_ = .pointer (some ⟨g, 5, none⟩))] (fun W => Ext w W) Ext rfl rfl rfl
        ?st ((Ext.rfl' w).drew') ?ob ?en
      case st => exact ⟨fun _ _ _ h _ => h, fun _ _ _ h _ => h, fun _ _ _ h _ => h, fun _ _ _ h _ => h, fun _ _ _ h _ => h, fun _ _ _ h _ => h, fun _ _ _ h _ => h, fun _ _ _ h _ => h, fun _ _ _ h _ => h, fun _ _ _ h _ => h, fun _ _ _ h _ => h, fun _ _ _ h _ => h, fun _ _ _ h _ => h, fun _ _ _ h _ => h, fun _ _ _ h _ => h, fun _ _ _ h _ => h, fun _ _ _ h _ => h, fun _ _ _ h _ => h, fun _ _ _ h _ => h, trivial⟩
      case ob =>
        refine ⟨Rg.at_run [0] rfl ?_, ?_⟩
        · intro ρ W hR ⟨q0, _⟩
          replace q0 : ρ 0 = .pointer (some ⟨g, 0, none⟩) := q0
          refine ⟨rfl, ?_⟩
          exact Rg.run_ok (v := .pointer (some ⟨g, 0, none⟩)) (by simp [execOp, Rg.ev, go_sem, q0]) ⟨rfl, hR, Ext.rfl' _⟩
        refine ⟨Rg.at_run [0] rfl ?_, ?_⟩
        · intro ρ W hR ⟨q0, _⟩
          replace q0 : ρ 0 = .pointer (some ⟨g, 0, none⟩) := q0
          refine ⟨rfl, ?_⟩
          exact Rg.run_ok (v := .pointer (some ⟨g, 0, none⟩)) (by simp [execOp, Rg.ev, go_sem, q0]) ⟨rfl, hR, Ext.rfl' _⟩
        refine ⟨Rg.at_run [36] rfl ?_, ?_⟩
        · intro ρ W hR ⟨q36, _⟩
          replace q36 : ρ 36 = .pointer (some ⟨g, 0, none⟩) := q36
          refine ⟨rfl, ?_⟩
          exact Rg.run_ok (v := .pointer (some ⟨g, 0, none⟩)) (by simp [execOp, Rg.ev, go_sem, q36]) ⟨rfl, hR, Ext.rfl' _⟩
        refine ⟨Rg.at_run [37] rfl ?_, ?_⟩
        · intro ρ W hR ⟨q37, _⟩
          replace q37 : ρ 37 = .pointer (some ⟨g, 0, none⟩) := q37
          refine ⟨rfl, ?_⟩
          exact Rg.run_ok (v := .pointer (some ⟨g, 0, none⟩)) (by simp [execOp, Rg.ev, go_sem, q37]) ⟨rfl, hR, Ext.rfl' _⟩
        refine ⟨Rg.at_run [38] rfl ?_, ?_⟩
        · intro ρ W hR ⟨q38, _⟩
          replace q38 : ρ 38 = .pointer (some ⟨g, 0, none⟩) := q38
          refine ⟨rfl, ?_⟩
          exact Rg.run_ok (v := .pointer (some ⟨g, 5, none⟩)) (by simp [execOp, Rg.ev, go_sem, q38]) ⟨rfl, hR, Ext.rfl' _⟩
        refine ⟨Rg.at_run [39] rfl ?_, ?_⟩
        · intro ρ W hR ⟨q39, _⟩
          replace q39 : ρ 39 = .pointer (some ⟨g, 5, none⟩) := q39
          refine ⟨rfl, ?_⟩
          have c5_ : W.cell? ⟨g, 5, none⟩ = some (.slice Ae k.ents.length ce) := ((hB.ext hR).cell 5).trans rfl
          exact Rg.run_ok (v := .slice Ae k.ents.length ce) (by simp [execOp, Rg.ev, go_sem, q39, c5_]) ⟨rfl, hR, Ext.rfl' _⟩
        refine ⟨Rg.at_run [1] rfl ?_, ?_⟩
        · intro ρ W hR ⟨q1, _⟩
          replace q1 : ρ 1 = .int .u64 i := q1
          refine ⟨rfl, ?_⟩
          exact Rg.run_ok (v := .int .u64 i) (by simp [execOp, Rg.ev, go_sem, q1]) ⟨rfl, hR, Ext.rfl' _⟩
        refine ⟨Rg.at_run [0] rfl ?_, ?_⟩
        · intro ρ W hR ⟨q0, _⟩
          replace q0 : ρ 0 = .pointer (some ⟨g, 0, none⟩) := q0
          refine ⟨rfl, ?_⟩
          exact Rg.run_ok (v := .pointer (some ⟨g, 0, none⟩)) (by simp [execOp, Rg.ev, go_sem, q0]) ⟨rfl, hR, Ext.rfl' _⟩
        refine ⟨Rg.at_run [42] rfl ?_, ?_⟩
        · intro ρ W hR ⟨q42, _⟩
          replace q42 : ρ 42 = .pointer (some ⟨g, 0, none⟩) := q42
          refine ⟨rfl, ?_⟩
          exact Rg.run_ok (v := .pointer (some ⟨g, 0, none⟩)) (by simp [execOp, Rg.ev, go_sem, q42]) ⟨rfl, hR, Ext.rfl' _⟩
        refine ⟨Rg.at_run [43] rfl ?_, ?_⟩
        · intro ρ W hR ⟨q43, _⟩
          replace q43 : ρ 43 = .pointer (some ⟨g, 0, none⟩) := q43
          refine ⟨rfl, ?_⟩
          exact Rg.run_ok (v := .pointer (some ⟨g, 0, none⟩)) (by simp [execOp, Rg.ev, go_sem, q43]) ⟨rfl, hR, Ext.rfl' _⟩
        refine ⟨Rg.at_run [44] rfl ?_, ?_⟩
        · intro ρ W hR ⟨q44, _⟩
          replace q44 : ρ 44 = .pointer (some ⟨g, 0, none⟩) := q44
          refine ⟨rfl, ?_⟩
          exact Rg.run_ok (v := .pointer (some ⟨g, 2, none⟩)) (by simp [execOp, Rg.ev, go_sem, q44]) ⟨rfl, hR, Ext.rfl' _⟩
        refine ⟨Rg.at_run [45] rfl ?_, ?_⟩
        · intro ρ W hR ⟨q45, _⟩
          replace q45 : ρ 45 = .pointer (some ⟨g, 2, none⟩) := q45
          refine ⟨rfl, ?_⟩
          exact Rg.run_ok (v := .pointer (some ⟨g, 2, none⟩)) (by simp [execOp, Rg.ev, go_sem, q45]) ⟨rfl, hR, Ext.rfl' _⟩
        refine ⟨Rg.at_run [46] rfl ?_, ?_⟩
        · intro ρ W hR ⟨q46, _⟩
          replace q46 : ρ 46 = .pointer (some ⟨g, 2, none⟩) := q46
          refine ⟨rfl, ?_⟩
          have c2_ : W.cell? ⟨g, 2, none⟩ = some (.int .u64 k.snap.index) := ((hB.ext hR).cell 2).trans rfl
          exact Rg.run_ok (v := .int .u64 k.snap.index) (by simp [execOp, Rg.ev, go_sem, q46, c2_]) ⟨rfl, hR, Ext.rfl' _⟩
        refine ⟨Rg.at_run [41, 47] rfl ?_, ?_⟩
        · intro ρ W hR ⟨q41, q47, _⟩
          replace q41 : ρ 41 = .int .u64 i := q41
          replace q47 : ρ 47 = .int .u64 k.snap.index := q47
          refine ⟨rfl, ?_⟩
          exact Rg.run_ok (v := .int .u64 (i - k.snap.index)) (by simp [execOp, Rg.ev, go_sem, q41, q47, hw1]) ⟨rfl, hR, Ext.rfl' _⟩
        refine ⟨Rg.at_run [48] rfl ?_, ?_⟩
        · intro ρ W hR ⟨q48, _⟩
          replace q48 : ρ 48 = .int .u64 (i - k.snap.index) := q48
          refine ⟨rfl, ?_⟩
          exact Rg.run_ok (v := .int .u64 (m : Nat)) (by simp [execOp, Rg.ev, go_sem, q48, hw2]) ⟨rfl, hR, Ext.rfl' _⟩
        refine ⟨Rg.at_run [40, 49] rfl ?_, ?_⟩
        · intro ρ W hR ⟨q40, q49, _⟩
          replace q40 : ρ 40 = .slice Ae k.ents.length ce := q40
          replace q49 : ρ 49 = .int .u64 (m : Nat) := q49
          refine ⟨rfl, ?_⟩
          have hs := run_sl_h (P := Try.prog) (A := Ae) (n := k.ents.length) (c := ce) (kh := .u64) Try.underlying23 hi0 hz1 m rfl (by omega) W
          exact Rg.run_ok (v := .slice Ae m ce) (by simp [execOp, Rg.ev, go_sem, q40, q49, hs]) ⟨rfl, hR, Ext.rfl' _⟩
        refine ⟨Rg.at_run [35] rfl ?_, ?_⟩
        · intro ρ W hR ⟨q35, _⟩
          replace q35 : ρ 35 = .pointer (some ⟨g, 0, none⟩) := q35
          refine ⟨rfl, ?_⟩
          exact Rg.run_ok (v := .pointer (some ⟨g, 0, none⟩)) (by simp [execOp, Rg.ev, go_sem, q35]) ⟨rfl, hR, Ext.rfl' _⟩
        refine ⟨Rg.at_run [51] rfl ?_, ?_⟩
        · intro ρ W hR ⟨q51, _⟩
          replace q51 : ρ 51 = .pointer (some ⟨g, 0, none⟩) := q51
          refine ⟨rfl, ?_⟩
          exact Rg.run_ok (v := .pointer (some ⟨g, 0, none⟩)) (by simp [execOp, Rg.ev, go_sem, q51]) ⟨rfl, hR, Ext.rfl' _⟩
        refine ⟨Rg.at_run [52] rfl ?_, ?_⟩
        · intro ρ W hR ⟨q52, _⟩
          replace q52 : ρ 52 = .pointer (some ⟨g, 0, none⟩) := q52
          refine ⟨rfl, ?_⟩
          exact Rg.run_ok (v := .pointer (some ⟨g, 5, none⟩)) (by simp [execOp, Rg.ev, go_sem, q52]) ⟨rfl, hR, Ext.rfl' _⟩
        trivial
      case en =>
        intro tm W hR hsz hk
        rw [Rg.fin_eq (ds := [35, 36, 37, 38, 39, 40, 41, 42, 43, 44, 45, 46, 47, 48, 49, 50, 51, 52, 53]) rfl rfl rfl hsz hk]
        have k35 : tm.getD 35 undef = .pointer (some ⟨g, 0, none⟩) := hk 35
        have k36 : tm.getD 36 undef = .pointer (some ⟨g, 0, none⟩) := hk 36
        have k37 : tm.getD 37 undef = .pointer (some ⟨g, 0, none⟩) := hk 37
        have k38 : tm.getD 38 undef = .pointer (some ⟨g, 0, none⟩) := hk 38
        have k39 : tm.getD 39 undef = .pointer (some ⟨g, 5, none⟩) := hk 39
        have k40 : tm.getD 40 undef = .slice Ae k.ents.length ce := hk 40
        have k41 : tm.getD 41 undef = .int .u64 i := hk 41
        have k42 : tm.getD 42 undef = .pointer (some ⟨g, 0, none⟩) := hk 42
        have k43 : tm.getD 43 undef = .pointer (some ⟨g, 0, none⟩) := hk 43
        have k44 : tm.getD 44 undef = .pointer (some ⟨g, 0, none⟩) := hk 44
        have k45 : tm.getD 45 undef = .pointer (some ⟨g, 2, none⟩) := hk 45
        have k46 : tm.getD 46 undef = .pointer (some ⟨g, 2, none⟩) := hk 46
        have k47 : tm.getD 47 undef = .int .u64 k.snap.index := hk 47
        have k48 : tm.getD 48 undef = .int .u64 (i - k.snap.index) := hk 48
        have k49 : tm.getD 49 undef = .int .u64 (m : Nat) := hk 49
        have k50 : tm.getD 50 undef = .slice Ae m ce := hk 50
        have k51 : tm.getD 51 undef = .pointer (some ⟨g, 0, none⟩) := hk 51
        have k52 : tm.getD 52 undef = .pointer (some ⟨g, 0, none⟩) := hk 52
        have k53 : tm.getD 53 undef = .pointer (some ⟨g, 5, none⟩) := hk 53
        clear hk hsz
        simp only [Rg.putAll, List.setIfInBounds_toArray, List.set_cons_zero, List.set_cons_succ, k35, k36, k37, k38, k39, k40, k41, k42, k43, k44, k45, k46, k47, k48, k49, k50, k51, k52, k53]
        clear k35
        clear k36
        clear k37
        clear k38
        clear k39
        clear k40
        clear k41
        clear k42
        clear k43
        clear k44
        clear k45
        clear k46
        clear k47
        clear k48
        clear k49
        clear k50
        clear k51
        clear k52
        clear k53
        replace hF : FoV X w0 W g k As cs Ae ce := ⟨hF.1.ext hR, hF.2.1.ext hR, hF.2.2.ext hR⟩
        have d5 := (hF.1.cell 5).trans rfl
        have f5 := hF.1.frozen 5
        clear b2 b5
        go_wp2_with fail
        go_end0
        obtain ⟨h1, h2⟩ := hF.ents (A := Ae) (n := m) (c := ce) (l := k.ents.take m) (by simp; omega) own_any (by rw [show (k.ents.take m).length = m by simp; omega]; exact hF.2.2.front hml)
        refine ⟨rfl, ⟨As, cs, Ae, ce, ?_⟩, (hR.chg [g]).trans h2⟩
        rw [HK.out, Nat.min_eq_right hml]
        exact h1
    · go_enter Try.func103, Try.ntmps103
      go_wp2
      go_end0
      refine ⟨rfl, ⟨As, cs, Ae, ce, ?_⟩, Chg.refl _ _⟩
      rw [HK.out, Nat.min_eq_left (by omega), List.take_length]
      exact hF
end Go.Proofs.Ytlblgopfdadalaa
