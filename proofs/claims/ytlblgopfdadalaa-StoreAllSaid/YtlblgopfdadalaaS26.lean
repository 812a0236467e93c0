/- A part of the proof of 'StoreAll'. -/
import Derived.Test.YtlblgopfdadalaaS24
import Derived.Test.YtlblgopfdadalaaS25
import Derived.Test.YtlblgopfdadalaaS11
import Derived.RegionTactic
import Derived.Deep.DeepCutAuto
import Derived.Deep.CutBlock
namespace Go.Proofs.Ytlblgopfdadalaa
set_option linter.unusedVariables false
set_option linter.unusedSimpArgs false
set_option linter.unnecessarySimpa false
set_option maxRecDepth 100000
open Go.RowKit
/-- what is known, in block g; it is only read -/
def RfV (X : Avoid) (w : World) (g : Nat) (k : Kp) (As : Option Addr) (cs : Nat) (Ae : Option Addr) (ce : Nat) : Prop :=
  Blk w g 53 #[.int .u64 k.hard.term, .int .i64 k.hard.vote, .int .u64 k.snap.index, .int .u64 k.snap.term, .slice As k.snap.state.length cs, .slice Ae k.ents.length ce] ∧ Enc.BsX w X (.slice As k.snap.state.length cs) k.snap.state ∧ Enc.Sl enE w X (.slice Ae k.ents.length ce) k.ents
def RfAt (X : Avoid) (w : World) (g : Nat) (k : Kp) : Prop := ∃ As cs Ae ce, RfV X w g k As cs Ae ce
theorem RfAt.ext {X : Avoid} {w w' : World} {g : Nat} {k : Kp} (h : RfAt X w g k) (hx : Ext w w') : RfAt X w' g k := by
  obtain ⟨As, cs, Ae, ce, h1, h2, h3⟩ := h
  exact ⟨As, cs, Ae, ce, h1.ext hx, h2.ext hx, h3.ext hx⟩
/-- along the appends of kind 2: how many stores were done -/
def RA (n1 g : Nat) (W1 : World) (xs new : List Value) (n : Nat) (old : Array Value) (mk : Value → Array Value) : Nat → World → Prop
  | 0, W => n1 ≤ W.heap.size ∧ Chg [g] W1 W ∧ Blk W g 53 old
  | _ + 1, W => Chg [g] W1 W ∧ ∃ v, Row2 n1 g 74 xs new n v W ∧ Blk W g 53 (mk v)
theorem RA.ext {n1 g : Nat} {W1 W W' : World} {xs new : List Value} {n : Nat} {old : Array Value} {mk : Value → Array Value} (h : RA n1 g W1 xs new n old mk 0 W) (hx : Ext W W') : RA n1 g W1 xs new n old mk 0 W' :=
  ⟨Nat.le_trans h.1 hx.size, h.2.1.trans (hx.chg _), h.2.2.ext hx⟩
theorem Chg.lessN {S T : List Nat} {a b : World} (h : Chg S a b) (hs : ∀ k, k ∈ S → k ∈ T ∨ a.heap.size ≤ k) : Chg T a b :=
  ⟨h.os, h.tape, h.output, h.size, fun k hk hn => h.block k hk fun hm => (hs k hm).elim hn fun h => by omega⟩
def RetKs (X : Avoid) (w w' : World) (e : Ending) (k : Kp) : Prop := ∃ (As : Option Addr) (cs : Nat) (Ae : Option Addr) (ce : Nat), e = .returned (.agg #[.int .u64 k.hard.term, .int .i64 k.hard.vote, .int .u64 k.snap.index, .int .u64 k.snap.term, .slice As k.snap.state.length cs, .slice Ae k.ents.length ce]) ∧
  Enc.BsX w' X (.slice As k.snap.state.length cs) k.snap.state ∧ Enc.Sl enE w' X (.slice Ae k.ents.length ce) k.ents ∧ Ext w w'
theorem ra_end {X : Avoid} {n1 g gw : Nat} {W4 W : World} {css : List (List Value)} {nw : List Value} {km : Kp} {y : En} {As A1 : Option Addr} {cs c1 : Nat} {old : Array Value}
    (hR : RA n1 g W4 css.flatten nw km.ents.length old (fun v => #[.int .u64 km.hard.term, .int .i64 km.hard.vote, .int .u64 km.snap.index, .int .u64 km.snap.term, .slice As km.snap.state.length cs, v]) 1 W) (hn1 : W4.heap.size = n1) (HNW : Hid (nw = [.int .u64 y.term, .slice A1 y.data.length c1]))
    (hea : Enc.Each enE W4 X css km.ents) (hFs : Enc.BsX W4 X (.slice As km.snap.state.length cs) km.snap.state) (he : 0 ≤ y.term ∧ y.term ≤ 18446744073709551615) (r2 : Enc.BsX W4 X (.slice A1 y.data.length c1) y.data)
    (hX : ∀ j, X j → j < gw) (hgw : gw ≤ n1) (hXg : X g) : RfAt X W g ⟨km.hard, km.snap, km.ents ++ [y]⟩ := by
  obtain ⟨hc, v, ⟨b, cap, cur, rfl, k1, k2, k3, k4, k5, k6, k7⟩, hB⟩ := hR
  have hin : ∀ j, j ∈ [g] → j < W4.heap.size → X j := fun j hj _ => by rw [List.mem_singleton.1 hj]; exact hXg
  have hnl : nw.length = 2 := by rw [HNW.out]; rfl
  have hlen : (km.ents ++ [y]).length = km.ents.length + 1 := by simp
  have hEE : Enc.Each enE W X (css ++ [nw]) (km.ents ++ [y]) := (hea.chg hc hin).app (.single (by rw [HNW.out]; exact en_rep.2 ⟨_, rfl, he, r2.chg hc hin⟩))
  have hfl : (css ++ [nw]).flatten = css.flatten ++ nw := by simp
  refine ⟨As, cs, some ⟨b, 0, none⟩, cap, ?_, hFs.chg hc hin, ?_⟩
  · simp only [hlen]; exact hB
  · simp only [hlen]
    refine ⟨_, _, css ++ [nw], by rw [hlen], by rw [hlen]; exact k4, k5, ⟨hEE.len, fun _ => ⟨_, rfl, k3.lt, fun j u hu => ?_⟩⟩, fun ad hv _ => ?_, hEE⟩
    · have hadd : (⟨b, 0, none⟩ : Addr).add j = ⟨b, j, none⟩ := by unfold Addr.add; split <;> simp_all
      rw [hadd, k3.cell, ← Array.getElem?_toList]
      rw [hfl] at hu
      exact take_allV k7 (by simp) j u hu
    · obtain rfl := Option.some.inj hv
      intro hx
      have := hX b hx
      omega
set_option maxHeartbeats 6400000 in
theorem rfold_b (X : Avoid) (k : Kp) (vs ve x : Value) (l : List Rec) (n : Nat) (w : World) (hX : ∀ j, X j → j < w.heap.size) (hkw : k.wide) (hks : k.small n) (hs : Enc.BsX w X vs k.snap.state) (he : Enc.Sl enE w X ve k.ents) (hx : Enc.Sl reE w X x l)
    (hl : ∀ r ∈ l, r.wide ∧ r.small) (hn : n + l.length ≤ 1000) :
    Calls Try.prog 58 #[.agg (kpcells k vs ve).toArray, x] w fun e w' => RetKs X w w' e (kfold k l) := by
  obtain ⟨Ax, cx, rfl, -, -⟩ := hx.form
  obtain ⟨kr, hkr⟩ : ∃ kr, kfold k l = kr := ⟨_, rfl⟩
  rw [hkr]
  have HKR := hide hkr
  clear hkr
  obtain ⟨As0, cS0, rfl, -, -, -⟩ := id hs.1
  obtain ⟨Ae0, cE0, rfl, -, -⟩ := he.form
  obtain ⟨hB, hR_, hxw⟩ := two_alK w 53 53 (kpcells k (.slice As0 k.snap.state.length cS0) (.slice Ae0 k.ents.length cE0)).toArray #[.int .u64 0, .int .i64 0, .int .u64 0, .int .u64 0, .slice none 0 0, .slice none 0 0]
  obtain ⟨g, hg⟩ : ∃ g, w.heap.size = g := ⟨_, rfl⟩
  rw [hg] at hB hR_
  have hXl : ∀ j, X j → j < g := fun j hj => by rw [← hg]; exact hX j hj
  go_enter Try.func58, Try.ntmps58
  go_upto_region 1 with fail
  generalize ((w.alloc (.cells (kpcells k (.slice As0 k.snap.state.length cS0) (.slice Ae0 k.ents.length cE0)).toArray 53)).alloc (.cells #[.int .u64 0, .int .i64 0, .int .u64 0, .int .u64 0, .slice none 0 0, .slice none 0 0] 53)) = w1 at *
  try rw [hg]
  have hr1 := hR_.lt
  have hX1 : ∀ j, XK X g j → j < w1.heap.size := fun j hj => by rcases hj with h | h; (have := hXl j h; omega); omega
  have hs' := (hs.mono (Y := XK X g) (fun j hj h => h.elim id fun h => by omega)).ext hxw
  have he' := (he.mono (Y := XK X g) (fun j hj h => h.elim id fun h => by omega)).ext hxw
  have hx' := (hx.mono (Y := XK X g) (fun j hj h => h.elim id fun h => by omega)).ext hxw
  have hFo : RfAt (XK X g) w1 g k := ⟨As0, cS0, Ae0, cE0, hB, hs', he'⟩
  clear hs' he' hB
  go_wp2_with fail
  go_loopw [5] (fun i wr => ∃ m : Nat, m ≤ l.length ∧ i = .int .i64 m ∧ RfAt (XK X g) wr g (kfold k (l.take m)) ∧ Chg [g] w1 wr) (fun i _ => (l.length - intOf i).toNat)
  case atStart => exact ⟨0, by omega, rfl, hFo, Chg.refl _ _⟩
  case round =>
    clear hFo
    obtain ⟨m, hm, rfl, hFo, hxr⟩ := hrel
    have hsm := Kp.small.fold (l.take m) hks (fun r hr => (hl r (List.mem_of_mem_take hr)).2)
    have hwd := Kp.wide.fold (l.take m) hkw (fun r hr => (hl r (List.mem_of_mem_take hr)).1)
    have hlt_ : (l.take m).length ≤ l.length := by rw [List.length_take]; omega
    have hxl := hx'.chg hxr (fun j hj _ => by have := List.mem_singleton.1 hj; exact .inr ⟨by omega, by omega⟩)
    by_cases hlt : m < l.length
    · obtain ⟨ad, r, v1, v2, rfl, hr, hb, p0, p1, p2, p3, p4, p5, p6, p7, p8, r1, r2, r3⟩ := re_at hxl hlt
      have hfs : kfold k (l.take (m + 1)) = kone (kfold k (l.take m)) r := by rw [take_snoc hr.out, kfold_snoc]
      have HFS := hide hfs
      clear hfs
      obtain ⟨km, hkm⟩ : ∃ q, kfold k (l.take m) = q := ⟨_, rfl⟩
      rw [hkm] at hFo hsm hwd HFS
      clear hkm
      obtain ⟨A1, c1, rfl, -, -, -⟩ := id r2.1
      obtain ⟨A2, c2, rfl, -, -, -⟩ := id r3.1
      have hz : Ext wr (wr.alloc (.cells (recells r (.slice A1 r.ent.data.length c1) (.slice A2 r.snap.state.length c2)).toArray 101)) := (Ext.rfl' _).alloc' _
      have hQ := Blk.new wr 101 (recells r (.slice A1 r.ent.data.length c1) (.slice A2 r.snap.state.length c2)).toArray
      obtain ⟨gq, hgq⟩ : ∃ g_, wr.heap.size = g_ := ⟨_, rfl⟩
      rw [hgq] at hQ
      have hm0 : (0 : Int) ≤ m := by omega
      have hml : (m : Int) < l.length := by omega
      have HLT := hide hlt
      clear hlt
      have hgq1 : w1.heap.size ≤ gq := by rw [← hgq]; exact hxr.size
      go_upto_region 5 with fail
      try rw [hgq]
      clear hgq p0 p1 p2 p3 p4 p5 p6 p7 p8
      generalize (wr.alloc (.cells (recells r (.slice A1 r.ent.data.length c1) (.slice A2 r.snap.state.length c2)).toArray 101)) = W4 at *
      replace hFo := hFo.ext hz
      replace r2 := r2.ext hz
      replace r3 := r3.ext hz
      replace hxr := hxr.trans (hz.chg [g])
      clear hz hxl
      have q0 := (hQ.cell 0).trans rfl
      go_upto_if 22 with fail
      rcases Bool.eq_false_or_eq_true (r.kind == 1) with k1 | k1
      · have HK : Hid (kone km r = ⟨r.hard, km.snap, km.ents⟩) := hide (by unfold kone; rw [if_pos (by simpa using k1)])
        obtain ⟨As, cs, Ae, ce, hF, hFs, hFe⟩ := hFo
        have q1 := (hQ.cell 1).trans rfl
        have q2 := (hQ.cell 2).trans rfl
        have d0 := (hF.cell 0).trans rfl
        have d1 := (hF.cell 1).trans rfl
        have f0 := hF.frozen 0
        have f1 := hF.frozen 1
        go_wp2
        have hcg : Chg [g] W4 ((W4.setCell ⟨g, 0, none⟩ (.int .u64 r.hard.term)).setCell ⟨g, 1, none⟩ (.int .i64 r.hard.vote)) := ((Chg.refl _ _).set (by simp) _).set (by simp) _
        have hin : ∀ j, j ∈ [g] → j < W4.heap.size → XK X g j := fun j hj _ => by have := List.mem_singleton.1 hj; exact .inr ⟨by omega, by omega⟩
        go_roundw
        case rel => exact ⟨m + 1, by have := HLT.out; omega, by go_num, by rw [HFS.out, HK.out]; exact ⟨As, cs, Ae, ce, (hF.set_ 0 _).set_ 1 _, hFs.chg hcg hin, hFe.chg hcg hin⟩, hxr.trans hcg⟩
        case measure => have := HLT.out; simp [intOf]; omega
      have K1 : Hid (¬ r.kind = 1) := hide (by simpa using k1)
      rcases Bool.eq_false_or_eq_true (r.kind == 2) with k2 | k2
      · have HK : Hid (kone km r = ⟨km.hard, km.snap, km.ents ++ [r.ent]⟩) := hide (by unfold kone; rw [if_neg K1.out, if_pos (by simpa using k2)])
        obtain ⟨As, cs, Ae, ce, hF, hFs, hFe⟩ := hFo
        obtain ⟨A_, c_, css, he_, hlc_, hcm_, hrd, hnx, hea⟩ := id hFe
        simp only [Value.slice.injEq, true_and] at he_
        obtain ⟨rfl, rfl⟩ := he_
        obtain ⟨n1, hn1⟩ : ∃ n_, W4.heap.size = n_ := ⟨_, rfl⟩
        have hgn : g < n1 := by rw [← hn1]; exact hF.lt
        have hgqn : gq < n1 := by rw [← hn1]; exact hQ.lt
        have hgqg : gq ≠ g := by omega
        have hlk : km.ents.length ≤ 1000 := by have := hsm.len; omega
        have hrw := (hl r (List.mem_of_getElem? hr.out)).1
        obtain ⟨nw, hnw⟩ : ∃ l_ : List Value, l_ = [.int .u64 r.ent.term, .slice A1 r.ent.data.length c1] := ⟨_, rfl⟩
        have HNW := hide hnw
        have hnl : nw.length = 2 := by rw [hnw]; rfl
        have hno : ∀ u ∈ nw, u.oneCell' = true := by rw [hnw]; intro u hu; simp at hu; rcases hu with rfl | rfl <;> rfl
        obtain ⟨i0, hi0, hz0, hz1, hz2⟩ := info_parts elt_en.info
        have hrun1 := fun (W : World) v (h1 : n1 ≤ W.heap.size) (h2 : Row0 n1 g 74 v W) (hrd : Reads W W.heap.size enE.size Ae km.ents.length css.flatten) => run_row1 (P := Try.prog) (new := nw) (c := ce) 23 23 i0 Try.underlying23 hi0 hz0 (hz1.trans hnl.symm) hz2 (elt_en.zs.trans hnl.symm) (by rw [hnl]; decide) h1 hgn h2 (by rw [hnl]; exact hrd) hea.one (by omega) (by decide)
        have hrun2 := fun (W : World) v y (h1 : n1 ≤ W.heap.size) (h2 : Row1 n1 g 74 css.flatten nw km.ents.length v W) (h3 : Lit1 n1 g 74 nw y W) => run_row2 (P := Try.prog) (new := nw) 23 23 i0 Try.underlying23 hi0 hz0 (hz1.trans hnl.symm) hz2 (elt_en.zs.trans hnl.symm) (by rw [hnl]; decide) h1 hgn (by rw [hea.len, hnl]; rfl) hno (by omega) (by decide) h2 h3
        have hnp : 0 < nw.length := by rw [hnl]; decide
        have HL := hide hnl
        clear hnw hnl hno
        have HR1 := hide hrun1
        have HR2 := hide hrun2
        clear hrun1 hrun2
        go_upto_region 9 with fail
        refine Rg.regionE Try.checked.mixed 121 10 (by kernel_rfl) [
          ((false, true), (fun v W => Row0 n1 g 74 v W)),
          ((false, true), (fun x_ _ => x_ = .pointer (some ⟨g, 5, none⟩))),
          ((false, true), (fun x_ _ => x_ = .slice Ae km.ents.length ce)),
          ((false, true), (fun v W => Row1 n1 g 74 css.flatten nw km.ents.length v W)),
          ((false, true), (fun x_ _ => x_ = .pointer (some ⟨gq, 3, none⟩))),
          ((false, true), (fun x_ _ => x_ = .agg #[.int .u64 r.ent.term, .slice A1 r.ent.data.length c1])),
          ((false, true), (fun v W => Lit1 n1 g 74 nw v W)),
          ((false, true), (fun v W => Row2 n1 g 74 css.flatten nw km.ents.length v W)),
          ((false, true), (fun x_ _ => x_ = .pointer (some ⟨g, 5, none⟩))),
          ((true, false), (fun x_ _ => x_ = undef))] (by kernel_rfl) (RA n1 g W4 css.flatten nw km.ents.length #[.int .u64 km.hard.term, .int .i64 km.hard.vote, .int .u64 km.snap.index, .int .u64 km.snap.term, .slice As km.snap.state.length cs, .slice Ae km.ents.length ce] (fun v => #[.int .u64 km.hard.term, .int .i64 km.hard.vote, .int .u64 km.snap.index, .int .u64 km.snap.term, .slice As km.snap.state.length cs, v])) (Gr n1 g 74 css.flatten nw) rfl rfl rfl
          ?st ⟨Nat.le_of_eq hn1.symm, (Chg.refl [g] _).drew, hF.drew⟩ ?ob ?en
        case st => exact ⟨fun _ _ _ h hG => h.last hnp hG, fun _ _ _ h _ => h, fun _ _ _ h _ => h, fun _ _ _ h hG => h.last hG, fun _ _ _ h _ => h, fun _ _ _ h _ => h, fun _ _ _ h hG => h.last hG, fun _ _ _ h hG => h.last hG, fun _ _ _ h _ => h, fun _ _ _ h _ => h, trivial⟩
        case ob =>
          refine ⟨Rg.e2 (Rg.at_runW [] rfl ?_), ?_⟩
          · intro ρ W hR _
            refine ⟨rfl, ?_⟩
            exact Rg.run_ok (v := .slice (some ⟨W.heap.size, 0, none⟩) 0 0) (W' := W.alloc (.cells #[] 74)) (by simp [execOp, Rg.ev, go_sem] <;> rfl) ⟨row0_new _ hR.1 hgn, hR.ext ((Ext.rfl' W).alloc' _), .of_ext ((Ext.rfl' W).alloc' _)⟩
          refine ⟨Rg.e2 (Rg.at_runW [2] rfl ?_), ?_⟩
          · intro ρ W hR ⟨q2, _⟩
            replace q2 : ρ 2 = .pointer (some ⟨g, 0, none⟩) := q2
            refine ⟨rfl, ?_⟩
            exact Rg.run_ok (v := .pointer (some ⟨g, 5, none⟩)) (by simp [execOp, Rg.ev, go_sem, q2]) ⟨rfl, hR, Gr.refl _⟩
          refine ⟨Rg.e2 (Rg.at_runW [30] rfl ?_), ?_⟩
          · intro ρ W hR ⟨q30, _⟩
            replace q30 : ρ 30 = .pointer (some ⟨g, 5, none⟩) := q30
            refine ⟨rfl, ?_⟩
            have c_ : W.cell? ⟨g, 5, none⟩ = some (.slice Ae km.ents.length ce) := (hR.2.2.cell 5).trans rfl
            exact Rg.run_ok (v := .slice Ae km.ents.length ce) (by simp [execOp, Rg.ev, go_sem, q30, c_]) ⟨rfl, hR, Gr.refl _⟩
          refine ⟨Rg.e2 (Rg.at_runW [29, 31] rfl ?_), ?_⟩
          · intro ρ W hR ⟨q29, q31, _⟩
            replace q29 : (fun v W => Row0 n1 g 74 v W) (ρ 29) W := q29
            replace q31 : ρ 31 = .slice Ae km.ents.length ce := q31
            refine ⟨rfl, ?_⟩
            obtain ⟨v', w', hrun, h2, h3⟩ := HR1.out W (ρ 29) hR.1 q29 (hrd.chg hR.2.1 (fun ad he h0 hm => hnx ad he h0 (.inr ⟨by have := List.mem_singleton.1 hm; omega, by have := List.mem_singleton.1 hm; omega⟩)))
            exact Rg.run_ok (by simp only [execOp, resolve, invoke, builtin, Sem.run_bind, Sem.run_pure, Result.andThen_ok, List.map_toArray, List.map_cons, List.map_nil, Rg.ev, q31, hrun]) ⟨h2, hR.ext h3, .of_ext h3⟩
          refine ⟨Rg.e2 (Rg.at_runW [6] rfl ?_), ?_⟩
          · intro ρ W hR ⟨q6, _⟩
            replace q6 : ρ 6 = .pointer (some ⟨gq, 0, none⟩) := q6
            refine ⟨rfl, ?_⟩
            exact Rg.run_ok (v := .pointer (some ⟨gq, 3, none⟩)) (by simp [execOp, Rg.ev, go_sem, q6]) ⟨rfl, hR, Gr.refl _⟩
          refine ⟨Rg.e2 (Rg.at_runW [33] rfl ?_), ?_⟩
          · intro ρ W hR ⟨q33, _⟩
            replace q33 : ρ 33 = .pointer (some ⟨gq, 3, none⟩) := q33
            refine ⟨rfl, ?_⟩
            have c3_ : W.cell? ⟨gq, 3, none⟩ = some (.int .u64 r.ent.term) := ((hQ.chg hR.2.1 (by simpa using hgqg)).cell 3).trans rfl
            have c4_ : W.cell? ⟨gq, 4, none⟩ = some (.slice A1 r.ent.data.length c1) := ((hQ.chg hR.2.1 (by simpa using hgqg)).cell 4).trans rfl
            exact Rg.run_ok (v := .agg #[.int .u64 r.ent.term, .slice A1 r.ent.data.length c1]) (by simp [execOp, Rg.ev, go_sem, q33, c3_, c4_]) ⟨rfl, hR, Gr.refl _⟩
          refine ⟨Rg.e2 (Rg.at_runW [34] rfl ?_), ?_⟩
          · intro ρ W hR ⟨q34, _⟩
            replace q34 : ρ 34 = .agg #[.int .u64 r.ent.term, .slice A1 r.ent.data.length c1] := q34
            refine ⟨rfl, ?_⟩
            have h9 := lit1_new (new := nw) 74 hR.1 hgn
            rw [HNW.out] at h9
            exact Rg.run_ok (v := .slice (some ⟨W.heap.size, 0, none⟩) 1 1) (W' := W.alloc (.cells #[.int .u64 r.ent.term, .slice A1 r.ent.data.length c1] 74)) (by simp [execOp, Rg.ev, go_sem, q34] <;> rfl) ⟨by rw [HNW.out]; exact h9, hR.ext ((Ext.rfl' W).alloc' _), .of_ext ((Ext.rfl' W).alloc' _)⟩
          refine ⟨Rg.e2 (Rg.at_runW [32, 35] rfl ?_), ?_⟩
          · intro ρ W hR ⟨q32, q35, _⟩
            replace q32 : (fun v W => Row1 n1 g 74 css.flatten nw km.ents.length v W) (ρ 32) W := q32
            replace q35 : (fun v W => Lit1 n1 g 74 nw v W) (ρ 35) W := q35
            refine ⟨rfl, ?_⟩
            obtain ⟨v', w', S, hrun, h2, h3, h4, h5⟩ := HR2.out W (ρ 32) (ρ 35) hR.1 q32 q35
            exact Rg.run_ok (by simp only [execOp, resolve, invoke, builtin, Sem.run_bind, Sem.run_pure, Result.andThen_ok, List.map_toArray, List.map_cons, List.map_nil, Rg.ev, hrun]) ⟨h2, ⟨Nat.le_trans hR.1 h4.size, ((hR.2.1.mono (T := g :: S) (by simp)).trans (h4.mono (by simp_all))).lessN (fun k hk => (List.mem_cons.1 hk).elim (fun h => .inl (by simp [h])) fun h => .inr (by rw [hn1]; exact h5 k h)), hR.2.2.chg h4 (fun hm => by have := h5 g hm; omega)⟩, h3⟩
          refine ⟨Rg.e2 (Rg.at_runW [2] rfl ?_), ?_⟩
          · intro ρ W hR ⟨q2, _⟩
            replace q2 : ρ 2 = .pointer (some ⟨g, 0, none⟩) := q2
            refine ⟨rfl, ?_⟩
            exact Rg.run_ok (v := .pointer (some ⟨g, 5, none⟩)) (by simp [execOp, Rg.ev, go_sem, q2]) ⟨rfl, hR, Gr.refl _⟩
          refine ⟨Rg.e1 (Rg.at_runW [37, 36] rfl ?_), ?_⟩
          · intro ρ W hR ⟨q37, q36, _⟩
            replace q37 : ρ 37 = .pointer (some ⟨g, 5, none⟩) := q37
            replace q36 : (fun v W => Row2 n1 g 74 css.flatten nw km.ents.length v W) (ρ 36) W := q36
            refine ⟨rfl, ?_⟩
            have c_ : W.cell? ⟨g, 5, none⟩ = some (.slice Ae km.ents.length ce) := (hR.2.2.cell 5).trans rfl
            have z_ := hR.2.2.frozen 5
            obtain ⟨b_, cap_, cur_, hv_, i1, i2, i3, i4⟩ := id q36
            exact Rg.run_skip (W' := W.setCell ⟨g, 5, none⟩ (ρ 36)) (by rw [hv_]; simp [execOp, Rg.ev, go_sem, q37, hv_, c_, z_]) ⟨rfl, ⟨hR.2.1.set (by simp) _, ρ 36, q36.last (.of_chg ((Chg.refl [g] _).set (by simp) _)), hR.2.2.set_ 5 _⟩, .of_chg ((Chg.refl [g] _).set (by simp) _)⟩
          trivial
        case en =>
          intro tm W hR hsz hk
          rw [Rg.fin_eq (ds := [29, 30, 31, 32, 33, 34, 35, 36, 37]) rfl rfl rfl hsz hk]
          have k29 : (fun v W => Row0 n1 g 74 v W) (tm.getD 29 undef) W := hk 29
          have k30 : tm.getD 30 undef = .pointer (some ⟨g, 5, none⟩) := hk 30
          have k31 : tm.getD 31 undef = .slice Ae km.ents.length ce := hk 31
          have k32 : (fun v W => Row1 n1 g 74 css.flatten nw km.ents.length v W) (tm.getD 32 undef) W := hk 32
          have k33 : tm.getD 33 undef = .pointer (some ⟨gq, 3, none⟩) := hk 33
          have k34 : tm.getD 34 undef = .agg #[.int .u64 r.ent.term, .slice A1 r.ent.data.length c1] := hk 34
          have k35 : (fun v W => Lit1 n1 g 74 nw v W) (tm.getD 35 undef) W := hk 35
          have k36 : (fun v W => Row2 n1 g 74 css.flatten nw km.ents.length v W) (tm.getD 36 undef) W := hk 36
          have k37 : tm.getD 37 undef = .pointer (some ⟨g, 5, none⟩) := hk 37
          clear hk hsz
          simp only [Rg.putAll, List.setIfInBounds_toArray, List.set_cons_zero, List.set_cons_succ, k30, k31, k33, k34, k37]
          generalize tm.getD 29 undef = u29 at *
          clear k30
          clear k31
          generalize tm.getD 32 undef = u32 at *
          clear k33
          clear k34
          generalize tm.getD 35 undef = u35 at *
          generalize tm.getD 36 undef = u36 at *
          clear k37
          refine Rg.nil_list ?_
          go_wp2_with fail
          go_roundw
          case rel => exact ⟨m + 1, by have := HLT.out; omega, by go_num, by rw [HFS.out, HK.out]; exact ra_end hR hn1 HNW hea hFs ⟨hrw.e0, hrw.e1⟩ r2 hX1 (by rw [← hn1]; exact hxr.size) (.inr ⟨by omega, by omega⟩), hxr.trans hR.1⟩
          case measure => have := HLT.out; simp [intOf]; omega
      have K2 : Hid (¬ r.kind = 2) := hide (by simpa using k2)
      rcases Bool.eq_false_or_eq_true (r.kind == 3) with k3 | k3
      · have HK0 : Hid (kone km r = ⟨km.hard, km.snap, km.ents.take (kcutN km r.index)⟩) := hide (by unfold kone; rw [if_neg K1.out, if_neg K2.out, if_pos (by simpa using k3)])
        obtain ⟨N, hN⟩ : ∃ N, kcutN km r.index = N := ⟨_, rfl⟩
        have HK : Hid (kone km r = ⟨km.hard, km.snap, km.ents.take N⟩) := hide (by rw [HK0.out, hN])
        have HN := hide hN
        clear hN HK0
        obtain ⟨As, cs, Ae, ce, hF, hFs, hFe⟩ := hFo
        have hrw := (hl r (List.mem_of_getElem? hr.out)).1
        have hn0 := hwd.n0
        have hn1 := hwd.n1
        have hi0 := hrw.i0
        have hi1 := hrw.i1
        have hlk : km.ents.length ≤ 1000 := by have := hsm.len; omega
        have hNl : N ≤ km.ents.length := by rw [← HN.out]; unfold kcutN; split <;> omega
        have q5 := (hQ.cell 5).trans rfl
        have d2 := (hF.cell 2).trans rfl
        have d5 := (hF.cell 5).trans rfl
        go_upto_block 3 with fail
        go_cut [7] from 10 to 119 (fun v7 wx => v7 = .int .i64 N ∧ W4 = wx)
        case first =>
          go_wp2_with fail
          go_loop [7] (fun v => ∃ q : Nat, q ≤ N ∧ v = .int .i64 q) (fun v => (N - intOf v).toNat)
          case atStart => exact ⟨0, by omega, rfl⟩
          case round =>
            obtain ⟨q, hqN, rfl⟩ := hrel
            by_cases c1 : (q : Int) < km.ents.length
            · by_cases c2 : km.snap.index < r.index
              · obtain ⟨u, hu⟩ : ∃ u : Nat, r.index - km.snap.index = ((u + 1 : Nat) : Int) := ⟨(r.index - km.snap.index - 1).toNat, by omega⟩
                have hw1 : IntKind.u64.wrap (r.index - km.snap.index) = (u : Int) + 1 := by rw [hu]; exact IntWalk.u64_in _ ⟨by omega, by omega⟩
                have hw2 : IntKind.u64.wrap ((u : Int) + 1 - 1) = (u : Int) := by rw [show (u : Int) + 1 - 1 = u by omega]; exact IntWalk.u64_in _ ⟨by omega, by omega⟩
                have hw3 : IntKind.u64.wrap (u : Int) = u := IntWalk.u64_in _ ⟨by omega, by omega⟩
                have hconv : IntKind.u64.wrap (q : Int) = q := IntWalk.u64_in _ ⟨by omega, by omega⟩
                have hNu : Hid (N = min km.ents.length u) := hide (by rw [← HN.out]; unfold kcutN; rw [if_neg (by omega)]; congr 1; omega)
                clear hu
                by_cases c3 : (q : Int) < u
                · go_wp2
                  go_round
                  case rel => exact ⟨q + 1, by have := hNu.out; omega, by go_num⟩
                  case measure => have := hNu.out; simp [intOf]; omega
                · go_wp2
                  go_meet
                  case rel => exact ⟨by rw [show q = N by have := hNu.out; omega], rfl⟩
              · go_wp2
                go_meet
                case rel => exact ⟨by rw [show q = N by have := HN.out; unfold kcutN at this; rw [if_pos (by omega)] at this; omega], rfl⟩
            · go_wp2
              go_meet
              case rel => exact ⟨by rw [show q = N by omega], rfl⟩
        case rest =>
          obtain ⟨rfl, rfl⟩ := hcut
          obtain ⟨A', c', he', hlec, hce⟩ := hFe.form
          simp only [Value.slice.injEq, true_and] at he'
          obtain ⟨rfl, rfl⟩ := he'
          simp only [maxLen] at hce
          have hXW : ∀ j, XK X g j → j < W4.heap.size := fun j hj => Nat.lt_of_lt_of_le (hX1 j hj) hxr.size
          have hxa : Ext W4 (W4.alloc (.cells #[] 74)) := (Ext.rfl' W4).alloc' _
          have e5 := ((hF.alloc (.cells #[] 74)).cell 5).trans rfl
          obtain ⟨i0, hi0, hz0, hz1, hz2⟩ := info_parts elt_en.info
          have hNc : N ≤ ce := by omega
          have hsl := fun W => run_sl_h (P := Try.prog) (A := Ae) (n := km.ents.length) (c := ce) (hi := (N : Int)) (kh := .i64) Try.underlying23 hi0 hz1 N rfl hNc W
          have hdl : (km.ents.take N).length = N := by rw [List.length_take]; omega
          have hfr := Sl.front hFe hNl
          go_wp2_with (at_builtin; refine wpList_own elt_en 23 Try.underlying23 rfl _ _ rfl (Own.lit0 (w0 := W4) (X := XK X g) _ _ (Ext.rfl' W4) _ rfl (fun h => Nat.lt_irrefl _ (hXW _ h))) rfl hxa (m := km.ents.take N) rfl (Sl.apartG (w0 := W4) hfr hxa (own_litG W4)) (fun h => by have := hXW _ h; simp at this; omega) (by simp only [List.length_nil, hdl]; omega) (by simp only [List.length_nil, hdl]; omega) ?_; intro l2 A2' c2' w5 hl2 hown2 hx5 hc5; have hB5 := hF.ext hx5; have f5 := hB5.frozen 5; have y5 := (hB5.cell 5).trans rfl)
          have hcg : Chg [g] w5 (w5.setCell ⟨g, 5, none⟩ (.slice A2' l2.length c2')) := (Chg.refl _ _).set (by simp) _
          have hin : ∀ j, j ∈ [g] → j < w5.heap.size → XK X g j := fun j hj _ => by have := List.mem_singleton.1 hj; exact .inr ⟨by omega, by omega⟩
          go_roundw
          case rel => exact ⟨m + 1, by have := HLT.out; omega, by go_num, by
            rw [HFS.out, HK.out]
            have hl2' := hl2.out
            rw [List.nil_append] at hl2'
            rw [← hl2']
            exact ⟨As, cs, A2', c2', hB5.set_ 5 _, (hFs.ext hx5).chg hcg hin, (hown2.sl).chg hcg hin⟩, (hxr.trans (hx5.chg _)).trans hcg⟩
          case measure => have := HLT.out; simp [intOf]; omega
      have K3 : Hid (¬ r.kind = 3) := hide (by simpa using k3)
      rcases Bool.eq_false_or_eq_true (r.kind == 4) with k4 | k4
      · obtain ⟨As, cs, Ae, ce, hF, hFs, hFe⟩ := hFo
        have q6 := (hQ.cell 6).trans rfl
        have d2 := (hF.cell 2).trans rfl
        have hrw := (hl r (List.mem_of_getElem? hr.out)).1
        have hin : ∀ W : World, ∀ j, j ∈ [g] → j < W.heap.size → XK X g j := fun W j hj _ => by have := List.mem_singleton.1 hj; exact .inr ⟨by omega, by omega⟩
        by_cases hle2 : r.snap.index ≤ km.snap.index
        · have HK : Hid (kone km r = km) := hide (by unfold kone; rw [if_neg K1.out, if_neg K2.out, if_neg K3.out, if_pos (by simpa using k4)]; exact if_pos hle2)
          go_wp2_with fail
          go_roundw
          case rel => exact ⟨m + 1, by have := HLT.out; omega, by go_num, by rw [HFS.out, HK.out]; exact ⟨As, cs, Ae, ce, hF, hFs, hFe⟩, hxr⟩
          case measure => have := HLT.out; simp [intOf]; omega
        · have HK : Hid (kone km r = ⟨km.hard, r.snap, ksnapE km r.snap⟩) := hide (by unfold kone; rw [if_neg K1.out, if_neg K2.out, if_neg K3.out, if_pos (by simpa using k4)]; exact if_neg hle2)
          have hn0 := hwd.n0
          have hn1 := hrw.n1
          have hlk : km.ents.length ≤ 1000 := by have := hsm.len; omega
          obtain ⟨u, hu⟩ : ∃ u : Nat, r.snap.index - km.snap.index = ((u + 1 : Nat) : Int) := ⟨(r.snap.index - km.snap.index - 1).toNat, by omega⟩
          have hw1 : IntKind.u64.wrap (r.snap.index - km.snap.index) = (u : Int) + 1 := by rw [hu]; exact IntWalk.u64_in _ ⟨by omega, by omega⟩
          have hw2 : IntKind.u64.wrap ((u : Int) + 1 - 1) = (u : Int) := by rw [show (u : Int) + 1 - 1 = u by omega]; exact IntWalk.u64_in _ ⟨by omega, by omega⟩
          have hconv : IntKind.u64.wrap (km.ents.length : Int) = km.ents.length := IntWalk.u64_in _ ⟨by omega, by omega⟩
          have HQ : Hid (snapQ km r.snap = (decide (((u + 1 : Nat) : Int) ≤ km.ents.length) && (km.ents[u]?).any (fun e => decide (e.term = r.snap.term)))) := hide (by unfold snapQ; rw [hu]; rfl)
          have HM := hide hu
          clear hu
          go_upto_region 19 with fail
          have d5 := (hF.cell 5).trans rfl
          have q7 := (hQ.cell 7).trans rfl
          have hdx := (Ext.rfl' W4).drew'
          go_cut [108] from 10 to 119 (fun b wx => b = .bool (snapQ km r.snap) ∧ Ext W4 wx)
          case first =>
            by_cases hle : ((u : Int) + 1) ≤ km.ents.length
            · obtain ⟨ad, y, vy, rfl, hyk, hbp, p0, p1, -, -⟩ := en_at hFe (k := u) (by omega)
              have hm0 : (0 : Int) ≤ u := by omega
              have hml : (u : Int) < km.ents.length := by omega
              rcases Bool.eq_false_or_eq_true (y.term == r.snap.term) with ht | ht
              · have HQ2 : Hid (snapQ km r.snap = true) := hide (by rw [HQ.out, hyk.out]; simp at ht; simp [ht]; omega)
                go_region
                go_wp2_with fail
                go_meet
                case rel => exact ⟨by rw [HQ2.out], hdx⟩
              · have HQ2 : Hid (snapQ km r.snap = false) := hide (by rw [HQ.out, hyk.out]; simp at ht; simp [ht])
                go_region
                go_wp2_with fail
                go_meet
                case rel => exact ⟨by rw [HQ2.out], hdx⟩
            · have HQ2 : Hid (snapQ km r.snap = false) := hide (by rw [HQ.out, decide_eq_false (by omega)]; rfl)
              go_region
              go_wp2_with fail
              go_meet
              case rel => exact ⟨by rw [HQ2.out], hdx⟩
          case rest =>
            obtain ⟨rfl, hxc⟩ := hcut
            generalize wc = W5 at *
            replace hF := hF.ext hxc
            replace hFs := hFs.ext hxc
            replace hFe := hFe.ext hxc
            replace hQ := hQ.ext hxc
            have r3c := r3.ext hxc
            have hxr5 := hxr.trans (hxc.chg [g])
            clear d5 q7 hdx q6 d2
            have d5 := (hF.cell 5).trans rfl
            obtain ⟨A', c', he', hlec, hce⟩ := hFe.form
            simp only [Value.slice.injEq, true_and] at he'
            obtain ⟨rfl, rfl⟩ := he'
            simp only [maxLen] at hce
            obtain ⟨q, hq⟩ : ∃ q, snapQ km r.snap = q := ⟨_, rfl⟩
            rw [hq]
            have HQQ := hide hq
            clear hq
            have hX5 : ¬ XK X g W5.heap.size := fun h => by
              have := hX1 _ h; have := hxr5.size; omega
            go_upto_if 108 with fail
            go_cut [8] from 10 to 119 (fun v8 wx => ∃ A c, v8 = .slice A (ksnapE km r.snap).length c ∧ Enc.Sl enE wx (XK X g) (.slice A (ksnapE km r.snap).length c) (ksnapE km r.snap) ∧ Ext W5 wx)
            case first =>
              cases q with
              | true =>
                have hml : u + 1 ≤ km.ents.length := by
                  have := HQQ.out
                  rw [HQ.out] at this
                  simp at this
                  omega
                obtain ⟨i0, hi0, hz0, hz1, hz2⟩ := info_parts elt_en.info
                have hsl := fun W => run_sl_l (P := Try.prog) (A := Ae) (n := km.ents.length) (c := ce) (lo := (u : Int) + 1) (kl := .u64) Try.underlying23 hi0 hz1 (u + 1) (by simp) (by omega) W
                have hdl : (km.ents.drop (u + 1)).length = km.ents.length - (u + 1) := List.length_drop
                have hy := (Sl.rest hFe hml).mono (Y := fun j => XK X g j ∨ (Value.slice none 0 0).ownBlock = some j) (fun j _ h => h.elim id (fun h => by cases h))
                have HE : Hid (ksnapE km r.snap = km.ents.drop (u + 1)) := hide (by rw [ksnapE_q, HQQ.out, if_pos rfl, HM.out]; rfl)
                go_wp2_with (at_builtin; refine wpList_own elt_en 23 Try.underlying23 rfl _ _ rfl (Own.nil _ _ W5 W5 (XK X g)) rfl (Ext.rfl' W5) (m := km.ents.drop (u + 1)) rfl hy hX5 (by simp only [List.length_nil, hdl]; omega) (by simp only [List.length_nil, hdl]; omega) ?_; intro l2 A2 c2 w5 hl2 hown2 hx5 hc5)
                go_meet
                case rel =>
                  rw [HE.out]
                  obtain rfl : l2 = km.ents.drop (u + 1) := by rw [hl2.out]; rfl
                  exact ⟨A2, c2, rfl, hown2.sl, hx5⟩
              | false =>
                go_wp2_with fail
                go_meet
                case rel =>
                  rw [show ksnapE km r.snap = [] by rw [ksnapE_q, HQQ.out, if_neg (by simp)]]
                  exact ⟨none, 0, rfl, Enc.Sl.nil _ _ _, Ext.rfl' _⟩
            case rest =>
              obtain ⟨A8, c8, rfl, hE8, hx8⟩ := hcut
              generalize wc = W6 at *
              clear d5
              replace hF := hF.ext hx8
              replace hFs := hFs.ext hx8
              replace hQ := hQ.ext hx8
              have r3d := r3c.ext hx8
              have hxr6 := hxr5.trans (hx8.chg [g])
              have q6 := (hQ.cell 6).trans rfl
              have q7 := (hQ.cell 7).trans rfl
              have q8 := (hQ.cell 8).trans rfl
              have d2 := (hF.cell 2).trans rfl
              have d3 := (hF.cell 3).trans rfl
              have d4 := (hF.cell 4).trans rfl
              have d5 := (hF.cell 5).trans rfl
              have f2 := hF.frozen 2
              have f3 := hF.frozen 3
              have f4 := hF.frozen 4
              have f5 := hF.frozen 5
              go_wp2
              have hcg : Chg [g] W6 ((((W6.setCell ⟨g, 2, none⟩ (.int .u64 r.snap.index)).setCell ⟨g, 3, none⟩ (.int .u64 r.snap.term)).setCell ⟨g, 4, none⟩ (.slice A2 r.snap.state.length c2)).setCell ⟨g, 5, none⟩ (.slice A8 (ksnapE km r.snap).length c8)) := ((((Chg.refl _ _).set (by simp) _).set (by simp) _).set (by simp) _).set (by simp) _
              go_roundw
              case rel => exact ⟨m + 1, by have := HLT.out; omega, by go_num, by rw [HFS.out, HK.out]; exact ⟨A2, c2, A8, c8, (((hF.set_ 2 _).set_ 3 _).set_ 4 _).set_ 5 _, r3d.chg hcg (hin _), hE8.chg hcg (hin _)⟩, hxr6.trans hcg⟩
              case measure => have := HLT.out; simp [intOf]; omega
      have HK : Hid (kone km r = km) := hide (by unfold kone; rw [if_neg K1.out, if_neg K2.out, if_neg K3.out, if_neg (by simpa using k4)])
      go_wp2_with fail
      go_roundw
      case rel => exact ⟨m + 1, by have := HLT.out; omega, by go_num, by rw [HFS.out, HK.out]; exact hFo, hxr.trans (Chg.refl _ _)⟩
      case measure => have := HLT.out; simp [intOf]; omega
    · obtain rfl : m = l.length := by omega
      rw [List.take_length] at hFo hsm hwd
      rw [HKR.out] at hFo hsm hwd
      obtain ⟨As, cs, Ae, ce, hF, hFs, hFe⟩ := hFo
      have hR6 := hR_.chg hxr (by simp)
      have b0 := (hF.cell 0).trans rfl
      have b1 := (hF.cell 1).trans rfl
      have b2 := (hF.cell 2).trans rfl
      have b3 := (hF.cell 3).trans rfl
      have b4 := (hF.cell 4).trans rfl
      have b5 := (hF.cell 5).trans rfl
      have r0 := (hR6.cell 0).trans rfl
      have r1 := (hR6.cell 1).trans rfl
      have r2 := (hR6.cell 2).trans rfl
      have r3 := (hR6.cell 3).trans rfl
      have r4 := (hR6.cell 4).trans rfl
      have r5 := (hR6.cell 5).trans rfl
      have f0 := hR6.frozen 0
      have f1 := hR6.frozen 1
      have f2 := hR6.frozen 2
      have f3 := hR6.frozen 3
      have f4 := hR6.frozen 4
      have f5 := hR6.frozen 5
      go_wp2
      try simp only [Exit.inBlock, Exit.then]
      have hcf : Chg [g + 1] wr _ := (Chg.refl [g + 1] wr).sixK (g := g + 1) (by simp) (.int .u64 kr.hard.term) (.int .i64 kr.hard.vote) (.int .u64 kr.snap.index) (.int .u64 kr.snap.term) (.slice As kr.snap.state.length cs) (.slice Ae kr.ents.length ce)
      refine bodyPost_ret (results_cell_row rfl _ _ (g + 1) 53 #[.int .u64 kr.hard.term, .int .i64 kr.hard.vote, .int .u64 kr.snap.index, .int .u64 kr.snap.term, .slice As kr.snap.state.length cs, .slice Ae kr.ents.length ce] (0, 0) _ rfl (Blk.sixK hR6 _ _ _ _ _ _) Try.underlying53 rfl (by kernel_rfl)) rfl ?_
      have hin : ∀ j, j ∈ [g + 1] → j < wr.heap.size → XK X g j := fun j hj _ => by have := List.mem_singleton.1 hj; exact .inr ⟨by omega, by omega⟩
      exact ⟨As, cs, Ae, ce, rfl, (hFs.chg hcf hin).mono (fun j _ h => .inl h), (hFe.chg hcf hin).mono (fun j _ h => .inl h), ((hxw.then_ hxr (by simp; omega)).then_ hcf (by simp; omega))⟩
end Go.Proofs.Ytlblgopfdadalaa
