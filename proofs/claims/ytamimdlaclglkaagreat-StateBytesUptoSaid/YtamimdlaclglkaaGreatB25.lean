/- A part of the proof of 'StateBytes'. -/
import Derived.Test.YtamimdlaclglkaaGreatB24
import Derived.Deep.RegionWith
namespace Go.Proofs.YtamimdlaclglkaaGreat
set_option linter.unusedVariables false
set_option linter.unusedSimpArgs false
set_option linter.unnecessarySimpa false
set_option maxRecDepth 100000
open Go.RowKit
abbrev XD (X : Avoid) (n : Nat) : Avoid := fun k => X k ∨ (n ≤ k ∧ k ≤ n + 3)
theorem new4d (w : World) (T1 T2 T3 T4 : TypeId) (c1 c2 c3 c4 : Array Value) : Blk ((((w.alloc (.cells c1 T1)).alloc (.cells c2 T2)).alloc (.cells c3 T3)).alloc (.cells c4 T4)) w.heap.size T1 c1 ∧ Blk ((((w.alloc (.cells c1 T1)).alloc (.cells c2 T2)).alloc (.cells c3 T3)).alloc (.cells c4 T4)) (w.heap.size + 1) T2 c2 ∧
    Blk ((((w.alloc (.cells c1 T1)).alloc (.cells c2 T2)).alloc (.cells c3 T3)).alloc (.cells c4 T4)) (w.heap.size + 2) T3 c3 ∧ Blk ((((w.alloc (.cells c1 T1)).alloc (.cells c2 T2)).alloc (.cells c3 T3)).alloc (.cells c4 T4)) (w.heap.size + 3) T4 c4 ∧
    Ext w ((((w.alloc (.cells c1 T1)).alloc (.cells c2 T2)).alloc (.cells c3 T3)).alloc (.cells c4 T4)) := by
  have h1 := Blk.new w T1 c1
  have h2 := Blk.new (w.alloc (.cells c1 T1)) T2 c2
  have h3 := Blk.new ((w.alloc (.cells c1 T1)).alloc (.cells c2 T2)) T3 c3
  have h4 := Blk.new (((w.alloc (.cells c1 T1)).alloc (.cells c2 T2)).alloc (.cells c3 T3)) T4 c4
  rw [show (w.alloc (.cells c1 T1)).heap.size = w.heap.size + 1 by simp] at h2
  rw [show ((w.alloc (.cells c1 T1)).alloc (.cells c2 T2)).heap.size = w.heap.size + 2 by simp] at h3
  rw [show (((w.alloc (.cells c1 T1)).alloc (.cells c2 T2)).alloc (.cells c3 T3)).heap.size = w.heap.size + 3 by simp] at h4
  exact ⟨((h1.alloc _).alloc _).alloc _, (h2.alloc _).alloc _, h3.alloc _, h4, ((((Ext.rfl' w).alloc' _).alloc' _).alloc' _).alloc' _⟩
theorem results_cell_cell {P : Program} {fn : Func} {p u : Tmp} {ty ty2 : TypeId} (h : fn.results = #[.cell p ty, .cell u ty2]) (tmps : Array Value) (w : World) (g g2 : Nat) (t t2 : TypeId) (cs cs2 : Array Value) (fr fr2 : Nat × Nat) (d d2 : TypeDesc)
    (hp : tmps.getD p undef = .pointer (some ⟨g, 0, none⟩)) (hg : w.heap[g]? = some (.cells cs t fr))
    (hu : P.underlying ty = some d) (hd : (match d with | .struct _ | .array _ _ => true | _ => false) = true) (hi : (P.info? ty).map (·.size) = some cs.size)
    (hp2 : tmps.getD u undef = .pointer (some ⟨g2, 0, none⟩)) (hg2 : w.heap[g2]? = some (.cells cs2 t2 fr2))
    (hu2 : P.underlying ty2 = some d2) (hd2 : (match d2 with | .struct _ | .array _ _ => true | _ => false) = true) (hi2 : (P.info? ty2).map (·.size) = some cs2.size) :
    (results fn tmps).run P w = .ok (.tuple #[.agg cs, .agg cs2]) w := by
  have hp' : tmps[p]?.getD undef = .pointer (some ⟨g, 0, none⟩) := by simpa using hp
  have hp2' : tmps[u]?.getD undef = .pointer (some ⟨g2, 0, none⟩) := by simpa using hp2
  simp only [results, h]
  simp [Sem.run_bind, hp', hp2', asAddr, run_loadVar_row w g t ty cs fr d hg hu hd hi, run_loadVar_row w g2 t2 ty2 cs2 fr2 d2 hg2 hu2 hd2 hi2]
theorem ldoW_sess (F : List Ln → Bytes → Option Ln) (W : List Ln → Ln → List Ln) (s : St) (c : Cm) : (ldoW F W s c).1.sess = s.sess := by
  unfold ldoW ltime lmakeW lnameW lfindW
  repeat' split
  all_goals rfl
theorem ldoW_now (F : List Ln → Bytes → Option Ln) (W : List Ln → Ln → List Ln) {s : St} {c : Cm} (h1 : U64 s.now) (h3 : U64 c.till) : U64 (ldoW F W s c).1.now := by
  unfold ldoW ltime lmakeW lnameW lfindW
  repeat' split
  all_goals first | exact h1 | exact ⟨by have := h1.1; show 0 ≤ max _ _; omega, by have := h1.2; have := h3.2; show max _ _ ≤ _; omega⟩
theorem ldoW_count (F : List Ln → Bytes → Option Ln) (W : List Ln → Ln → List Ln) {s : St} {c : Cm} (h2 : U64 s.count) : U64 (ldoW F W s c).1.count := by
  unfold ldoW ltime lmakeW lnameW lfindW
  repeat' split
  all_goals first | exact h2 | exact ⟨by have := h2.1; show 0 ≤ s.count + 1; omega, by show s.count + 1 ≤ _; omega⟩
/-- the state's own lists, copied -/
theorem do_end {X : Avoid} {w0 W : World} {g : Nat} {s : St} {AL AS vl vs : Value} (hB : Blk W g 28 #[.int .u64 s.now, .int .u64 s.count, vl, vs]) (hx : Ext w0 W)
    (hL : Own 53 lnE w0 W (XD X g) AL s.links) (hS : Own 56 seE w0 W (XD X g) AS s.sess) :
    ∃ A1 c1 A2 c2, Blk ((W.setCell ⟨g, 2, none⟩ AL).setCell ⟨g, 3, none⟩ AS) g 28 #[.int .u64 s.now, .int .u64 s.count, .slice A1 s.links.length c1, .slice A2 s.sess.length c2] ∧
      Own 53 lnE w0 ((W.setCell ⟨g, 2, none⟩ AL).setCell ⟨g, 3, none⟩ AS) (XD X g) (.slice A1 s.links.length c1) s.links ∧ Own 56 seE w0 ((W.setCell ⟨g, 2, none⟩ AL).setCell ⟨g, 3, none⟩ AS) (XD X g) (.slice A2 s.sess.length c2) s.sess ∧
      Chg [g] w0 ((W.setCell ⟨g, 2, none⟩ AL).setCell ⟨g, 3, none⟩ AS) := by
  obtain ⟨A1, c1, rfl, -, -⟩ := hL.form
  obtain ⟨A2, c2, rfl, -, -⟩ := hS.form
  have hcg : Chg [g] W ((W.setCell ⟨g, 2, none⟩ (.slice A1 s.links.length c1)).setCell ⟨g, 3, none⟩ (.slice A2 s.sess.length c2)) := ((Chg.refl [g] W).set (by simp) _).set (by simp) _
  exact ⟨A1, c1, A2, c2, (hB.set_ 2 _).set_ 3 _, hL.chg hcg (fun k hk _ => .inr (by simp at hk; omega)), hS.chg hcg (fun k hk _ => .inr (by simp at hk; omega)), (hx.chg [g]).trans hcg⟩
set_option maxHeartbeats 12800000 in
theorem ldo_b (X : Avoid) (s : St) (cs : List Value) (c : Cm) (w : World) (hX : ∀ k, X k → k < w.heap.size) (hs : stE.rep w X cs s) (hc : c.wide) (hcu : c.url.length ≤ 1000000) (hcn : c.name.length ≤ 1000000) (hr : RiseL s.links) (hl : s.links.length ≤ 10000)
    (hf : s.count < 238328 → lfind s.links (code3 s.count.toNat) = none) (hsl : s.sess.length ≤ 1000) (hdl : ∀ x ∈ s.sess, x.done.length ≤ 1001) :
    Calls Tryz.prog 29 #[.agg cs.toArray, cv c] w fun e w' => ∃ (cs' : List Value) (t : St) (a : An), Hid ((t, a) = ldoW lfind lkput s c) ∧ e = .returned (.tuple #[.agg cs'.toArray, .agg (acells a).toArray]) ∧ stE.rep w' X cs' t ∧ Ext w w' := by
  obtain ⟨vl, vs, rfl, s1, s2, s3, s4⟩ := st_rep.1 hs
  obtain ⟨Al, cl, rfl, -, -⟩ := s3.form
  obtain ⟨As, cs', rfl, -, -⟩ := s4.form
  obtain ⟨hB, hC, hR, hA, hx0⟩ := new4d w 28 37 28 33 (stcells s (.slice Al s.links.length cl) (.slice As s.sess.length cs')).toArray (ccells c) #[.int .u64 0, .int .u64 0, .slice none 0 0, .slice none 0 0] (acells ⟨0, []⟩).toArray
  obtain ⟨g, hg⟩ : ∃ g, w.heap.size = g := ⟨_, rfl⟩
  rw [hg] at hB hC hR hA
  change Blk _ (g + 1 + 1) _ _ at hR
  change Blk _ (g + 1 + 1 + 1) _ _ at hA
  have s3' := (s3.mono (Y := XD X g) fun k hk h => h.elim id fun h => by omega).ext hx0
  have s4' := (s4.mono (Y := XD X g) fun k hk h => h.elim id fun h => by omega).ext hx0
  go_enter Tryz.func29, Tryz.ntmps29
  go_upto_region 1 with fail
  generalize hw0 : ((((w.alloc (.cells (stcells s (.slice Al s.links.length cl) (.slice As s.sess.length cs')).toArray 28)).alloc (.cells (ccells c) 37)).alloc (.cells #[.int .u64 0, .int .u64 0, .slice none 0 0, .slice none 0 0] 28)).alloc (.cells (acells ⟨0, []⟩).toArray 33)) = w0 at *
  try rw [hw0]
  try rw [hg]
  clear hw0
  have hXD : ∀ k, XD X g k → k < w0.heap.size := fun k hk => hk.elim (fun h => Nat.lt_of_lt_of_le (hX k h) hx0.size) fun h => Nat.lt_of_le_of_lt h.2 hA.lt
  go_cut [] (fun wx => ∃ A1 c1 A2 c2, Blk wx g 28 #[.int .u64 s.now, .int .u64 s.count, .slice A1 s.links.length c1, .slice A2 s.sess.length c2] ∧ Own 53 lnE w0 wx (XD X g) (.slice A1 s.links.length c1) s.links ∧ Own 56 seE w0 wx (XD X g) (.slice A2 s.sess.length c2) s.sess ∧ Chg [g] w0 wx)
  case first =>
    have m2 : w0.cell? ⟨g, 2, none⟩ = some (.slice Al s.links.length cl) := (hB.cell 2).trans rfl
    have m3 : w0.cell? ⟨g, 3, none⟩ = some (.slice As s.sess.length cs') := (hB.cell 3).trans rfl
    have HL := hide (fun W (hx : Ext w0 W) => cloneX_ln (XD X g) W (fun k hk => Nat.lt_of_lt_of_le (hXD k hk) hx.size) (.slice Al s.links.length cl) s.links (by omega) (s3'.ext hx))
    have HS := hide (fun W (hx : Ext w0 W) => cloneX_se (XD X g) W (fun k hk => Nat.lt_of_lt_of_le (hXD k hk) hx.size) (.slice As s.sess.length cs') s.sess (by omega) (s4'.ext hx))
    have hd0 : Ext w0 w0.drew := (Ext.rfl' w0).drew'
    go_region_with (first
      | (go_at_call 55; go_loud (refine (HL.out _ ?_).mono ?_; (first | exact hd0 | exact hyS); rintro e wL ⟨mL, AL, cL, hmL, rfl, hoL, hxL⟩; obtain rfl : mL = s.links := hmL.out; have hyL : Ext w0 wL := (by first | exact hd0.trans' hxL | exact hyS.trans' hxL); have hoL' : Own 53 lnE w0 wL (XD X g) (.slice AL s.links.length cL) s.links := (by first | exact hoL.trans hd0 | exact hoL.trans hyS); have mL2 : wL.cell? ⟨g, 2, none⟩ = some (.slice Al s.links.length cl) := ((hB.ext hyL).cell 2).trans rfl; have mL3 : wL.cell? ⟨g, 3, none⟩ = some (.slice As s.sess.length cs') := ((hB.ext hyL).cell 3).trans rfl; have fL2 := (hB.ext hyL).frozen 2; have fL3 := (hB.ext hyL).frozen 3))
      | (go_at_call 56; go_loud (refine (HS.out _ ?_).mono ?_; (first | exact hd0 | exact hyL); rintro e wS ⟨mS, AS, cS, hmS, rfl, hoS, hxS⟩; obtain rfl : mS = s.sess := hmS.out; have hyS : Ext w0 wS := (by first | exact hd0.trans' hxS | exact hyL.trans' hxS); have hoS' : Own 56 seE w0 wS (XD X g) (.slice AS s.sess.length cS) s.sess := (by first | exact hoS.trans hd0 | exact hoS.trans hyL); have mS2 : wS.cell? ⟨g, 2, none⟩ = some (.slice Al s.links.length cl) := ((hB.ext hyS).cell 2).trans rfl; have mS3 : wS.cell? ⟨g, 3, none⟩ = some (.slice As s.sess.length cs') := ((hB.ext hyS).cell 3).trans rfl; have fS2 := (hB.ext hyS).frozen 2; have fS3 := (hB.ext hyS).frozen 3)))
    all_goals (go_wp2_with fail; go_meet; case rel => first | exact do_end (hB.ext hyS) hyS (hoL'.ext hxS) hoS' | exact do_end (hB.ext hyL) hyL hoL' (hoS'.ext hxL))
  case rest =>
  obtain ⟨AL, cL, AS, cS, hB2, hL2, hS2, hcg0⟩ := hcut
  generalize wc = w2 at *
  have b3 := (hB2.cell 3).trans rfl
  go_wp2_with fail
  go_loopw [20] (fun i wr => ∃ ja : Nat, ja ≤ s.sess.length ∧ i = .int .i64 ja ∧ Blk wr g 28 #[.int .u64 s.now, .int .u64 s.count, .slice AL s.links.length cL, .slice AS s.sess.length cS] ∧ Own 53 lnE w0 wr (XD X g) (.slice AL s.links.length cL) s.links ∧ Own 56 seE w0 wr (XD X g) (.slice AS s.sess.length cS) s.sess ∧ Chg [g] w0 wr) (fun i _ => (s.sess.length - intOf i).toNat)
  case atStart => exact ⟨0, Nat.zero_le _, rfl, hB2, hL2, hS2, hcg0⟩
  case round =>
    obtain ⟨ja, hal, rfl, hBr, hLr, hSr, hcr⟩ := hrel
    have hszr := hcr.size
    by_cases hlt : ja < s.sess.length
    · obtain ⟨gs, cap2, cur, css, hv, -, hgs7, -, -, -, -, -, hXg⟩ := hSr.open_ (by omega)
      simp only [Value.slice.injEq, true_and] at hv
      obtain ⟨rfl, rfl⟩ := hv
      obtain ⟨d, v, hds, hgl, p0, p1, p2, p3, p4, p5⟩ := se_own_at hSr (k := ja) hlt
      have hdm := hdl d (List.mem_of_getElem? hds.out)
      obtain ⟨Ad, cd, rfl, -, -⟩ := p5.form
      have hb1 : (0 : Int) ≤ ja := by omega
      have hb2 : (ja : Int) < s.sess.length := by omega
      have r3_ := (hBr.cell 3).trans rfl
      have hne : g ≠ gs := by omega
      go_wp2
      refine Rg.regionT Tryz.checked.mixed 49 12 (by kernel_rfl) [
        (fun x_ _ => x_ = .pointer (some ⟨g, 3, none⟩)),
        (fun x_ _ => x_ = .slice (some ⟨gs, 0, none⟩) s.sess.length cS),
        (fun x_ _ => x_ = .int .i64 ja),
        (fun x_ _ => x_ = .pointer (some ⟨g, 3, none⟩)),
        (fun x_ _ => x_ = .slice (some ⟨gs, 0, none⟩) s.sess.length cS),
        (fun x_ _ => x_ = .int .i64 ja),
        (fun x_ _ => x_ = .pointer (some ⟨gs, ja * 3, none⟩)),
        (fun x_ _ => x_ = .pointer (some ⟨gs, ja * 3 + 2, none⟩)),
        (fun x_ _ => x_ = .slice Ad d.done.length cd),
        (fun v W => Own 68 dnE wr W (fun k => XD X g k ∨ k = gs) v d.done),
        (fun x_ _ => x_ = .pointer (some ⟨gs, ja * 3, none⟩)),
        (fun x_ _ => x_ = .pointer (some ⟨gs, ja * 3 + 2, none⟩))] (fun W => Ext wr W) Ext rfl rfl rfl
        ?st ((Ext.rfl' wr).drew') ?ob ?en
      case st => exact ⟨fun _ _ _ h _ => h, fun _ _ _ h _ => h, fun _ _ _ h _ => h, fun _ _ _ h _ => h, fun _ _ _ h _ => h, fun _ _ _ h _ => h, fun _ _ _ h _ => h, fun _ _ _ h _ => h, fun _ _ _ h _ => h, fun _ _ _ h hx => h.ext hx, fun _ _ _ h _ => h, fun _ _ _ h _ => h, trivial⟩
      case ob =>
        refine ⟨Rg.at_run [2] rfl ?_, ?_⟩
        · intro ρ W hR ⟨q2, _⟩
          replace q2 : ρ 2 = .pointer (some ⟨g, 0, none⟩) := q2
          refine ⟨rfl, ?_⟩
          exact Rg.run_ok (v := .pointer (some ⟨g, 3, none⟩)) (by simp [execOp, Rg.ev, go_sem, q2]) ⟨rfl, hR, Ext.rfl' _⟩
        refine ⟨Rg.at_run [23] rfl ?_, ?_⟩
        · intro ρ W hR ⟨q23, _⟩
          replace q23 : ρ 23 = .pointer (some ⟨g, 3, none⟩) := q23
          refine ⟨rfl, ?_⟩
          have c3_ : W.cell? ⟨g, 3, none⟩ = some (.slice (some ⟨gs, 0, none⟩) s.sess.length cS) := ((hBr.ext hR).cell 3).trans rfl
          exact Rg.run_ok (v := .slice (some ⟨gs, 0, none⟩) s.sess.length cS) (by simp [execOp, Rg.ev, go_sem, q23, c3_]) ⟨rfl, hR, Ext.rfl' _⟩
        refine ⟨Rg.at_run [6] rfl ?_, ?_⟩
        · intro ρ W hR ⟨q6, _⟩
          replace q6 : ρ 6 = .int .i64 ja := q6
          refine ⟨rfl, ?_⟩
          exact Rg.run_ok (v := .int .i64 ja) (by simp [execOp, Rg.ev, go_sem, q6]) ⟨rfl, hR, Ext.rfl' _⟩
        refine ⟨Rg.at_run [2] rfl ?_, ?_⟩
        · intro ρ W hR ⟨q2, _⟩
          replace q2 : ρ 2 = .pointer (some ⟨g, 0, none⟩) := q2
          refine ⟨rfl, ?_⟩
          exact Rg.run_ok (v := .pointer (some ⟨g, 3, none⟩)) (by simp [execOp, Rg.ev, go_sem, q2]) ⟨rfl, hR, Ext.rfl' _⟩
        refine ⟨Rg.at_run [26] rfl ?_, ?_⟩
        · intro ρ W hR ⟨q26, _⟩
          replace q26 : ρ 26 = .pointer (some ⟨g, 3, none⟩) := q26
          refine ⟨rfl, ?_⟩
          have c3_ : W.cell? ⟨g, 3, none⟩ = some (.slice (some ⟨gs, 0, none⟩) s.sess.length cS) := ((hBr.ext hR).cell 3).trans rfl
          exact Rg.run_ok (v := .slice (some ⟨gs, 0, none⟩) s.sess.length cS) (by simp [execOp, Rg.ev, go_sem, q26, c3_]) ⟨rfl, hR, Ext.rfl' _⟩
        refine ⟨Rg.at_run [6] rfl ?_, ?_⟩
        · intro ρ W hR ⟨q6, _⟩
          replace q6 : ρ 6 = .int .i64 ja := q6
          refine ⟨rfl, ?_⟩
          exact Rg.run_ok (v := .int .i64 ja) (by simp [execOp, Rg.ev, go_sem, q6]) ⟨rfl, hR, Ext.rfl' _⟩
        refine ⟨Rg.at_run [27, 28] rfl ?_, ?_⟩
        · intro ρ W hR ⟨q27, q28, _⟩
          replace q27 : ρ 27 = .slice (some ⟨gs, 0, none⟩) s.sess.length cS := q27
          replace q28 : ρ 28 = .int .i64 ja := q28
          refine ⟨rfl, ?_⟩
          exact Rg.run_ok (v := .pointer (some ⟨gs, ja * 3, none⟩)) (by simp [execOp, Rg.ev, go_sem, q27, q28, hb1, hb2]) ⟨rfl, hR, Ext.rfl' _⟩
        refine ⟨Rg.at_run [29] rfl ?_, ?_⟩
        · intro ρ W hR ⟨q29, _⟩
          replace q29 : ρ 29 = .pointer (some ⟨gs, ja * 3, none⟩) := q29
          refine ⟨rfl, ?_⟩
          exact Rg.run_ok (v := .pointer (some ⟨gs, ja * 3 + 2, none⟩)) (by simp [execOp, Rg.ev, go_sem, q29]) ⟨rfl, hR, Ext.rfl' _⟩
        refine ⟨Rg.at_run [30] rfl ?_, ?_⟩
        · intro ρ W hR ⟨q30, _⟩
          replace q30 : ρ 30 = .pointer (some ⟨gs, ja * 3 + 2, none⟩) := q30
          refine ⟨rfl, ?_⟩
          have c_ : W.cell? ⟨gs, ja * 3 + 2, none⟩ = some (.slice Ad d.done.length cd) := by rw [hR.cell hgl]; exact p2
          exact Rg.run_ok (v := .slice Ad d.done.length cd) (by simp [execOp, Rg.ev, go_sem, q30, c_]) ⟨rfl, hR, Ext.rfl' _⟩
        refine ⟨Rg.at_run [31] rfl ?_, ?_⟩
        · intro ρ W hR ⟨q31, _⟩
          replace q31 : ρ 31 = .slice Ad d.done.length cd := q31
          refine ⟨rfl, ?_⟩
          refine Rg.enter_fn (args := #[.slice Ad d.done.length cd]) rfl (by simp only [List.map_toArray, List.map_cons, List.map_nil, Rg.ev, q31]) (by kernel_rfl) ?_
          refine (cloneX_dn (fun k => XD X g k ∨ k = gs) W (fun k hk => hk.elim (fun h => Nat.lt_of_lt_of_le (Nat.lt_of_lt_of_le (hXD _ h) hszr) hR.size) fun h => by subst h; exact Nat.lt_of_lt_of_le hgl hR.size) (.slice Ad d.done.length cd) d.done (Nat.le_trans hdm (by decide)) (p5.ext hR)).mono ?_
          rintro e W2 ⟨m, A5, c5, hm5, rfl, hown5, hx5⟩
          have hm' := hm5.out
          subst hm'
          exact ⟨_, rfl, hown5.base hR.size, hR.trans' hx5, hx5⟩
        refine ⟨Rg.at_run [24, 25] rfl ?_, ?_⟩
        · intro ρ W hR ⟨q24, q25, _⟩
          replace q24 : ρ 24 = .slice (some ⟨gs, 0, none⟩) s.sess.length cS := q24
          replace q25 : ρ 25 = .int .i64 ja := q25
          refine ⟨rfl, ?_⟩
          exact Rg.run_ok (v := .pointer (some ⟨gs, ja * 3, none⟩)) (by simp [execOp, Rg.ev, go_sem, q24, q25, hb1, hb2]) ⟨rfl, hR, Ext.rfl' _⟩
        refine ⟨Rg.at_run [33] rfl ?_, ?_⟩
        · intro ρ W hR ⟨q33, _⟩
          replace q33 : ρ 33 = .pointer (some ⟨gs, ja * 3, none⟩) := q33
          refine ⟨rfl, ?_⟩
          exact Rg.run_ok (v := .pointer (some ⟨gs, ja * 3 + 2, none⟩)) (by simp [execOp, Rg.ev, go_sem, q33]) ⟨rfl, hR, Ext.rfl' _⟩
        trivial
      case en =>
        intro tm W hR hsz hk
        rw [Rg.fin_eq (ds := [23, 24, 25, 26, 27, 28, 29, 30, 31, 32, 33, 34]) rfl rfl rfl hsz hk]
        have k23 : tm.getD 23 undef = .pointer (some ⟨g, 3, none⟩) := hk 23
        have k24 : tm.getD 24 undef = .slice (some ⟨gs, 0, none⟩) s.sess.length cS := hk 24
        have k25 : tm.getD 25 undef = .int .i64 ja := hk 25
        have k26 : tm.getD 26 undef = .pointer (some ⟨g, 3, none⟩) := hk 26
        have k27 : tm.getD 27 undef = .slice (some ⟨gs, 0, none⟩) s.sess.length cS := hk 27
        have k28 : tm.getD 28 undef = .int .i64 ja := hk 28
        have k29 : tm.getD 29 undef = .pointer (some ⟨gs, ja * 3, none⟩) := hk 29
        have k30 : tm.getD 30 undef = .pointer (some ⟨gs, ja * 3 + 2, none⟩) := hk 30
        have k31 : tm.getD 31 undef = .slice Ad d.done.length cd := hk 31
        have k32 : (fun v W => Own 68 dnE wr W (fun k => XD X g k ∨ k = gs) v d.done) (tm.getD 32 undef) W := hk 32
        have k33 : tm.getD 33 undef = .pointer (some ⟨gs, ja * 3, none⟩) := hk 33
        have k34 : tm.getD 34 undef = .pointer (some ⟨gs, ja * 3 + 2, none⟩) := hk 34
        clear hk hsz
        simp only [Rg.putAll, List.setIfInBounds_toArray, List.set_cons_zero, List.set_cons_succ, k23, k24, k25, k26, k27, k28, k29, k30, k31, k33, k34]
        clear k23
        clear k24
        clear k25
        clear k26
        clear k27
        clear k28
        clear k29
        clear k30
        clear k31
        generalize tm.getD 32 undef = u32 at *
        clear k33
        clear k34
        obtain ⟨A9, c9, hv9, -, -⟩ := k32.form
        subst hv9
        have hgW := Nat.lt_of_lt_of_le hgl hR.size
        have f2 : W.frozen? ⟨gs, ja * 3 + 2, none⟩ = false := by
          obtain ⟨cur', css', b1, -⟩ := (hSr.ext hR).blk (by omega)
          exact b1.frozen _
        have p2W : W.cell? ⟨gs, ja * 3 + 2, none⟩ = some (.slice Ad d.done.length cd) := by rw [hR.cell hgl]; exact p2
        have p0W : W.cell? ⟨gs, ja * 3, none⟩ = some (.int .i64 d.client) := by rw [hR.cell hgl]; exact p0
        have p1W : W.cell? ⟨gs, ja * 3 + 1, none⟩ = some (.int .u64 d.high) := by rw [hR.cell hgl]; exact p1
        have hS9 : Own 56 seE w0 (W.setCell ⟨gs, ja * 3 + 2, none⟩ (.slice A9 d.done.length c9)) (XD X g) (.slice (some ⟨gs, 0, none⟩) s.sess.length cS) s.sess := by
          have h := Own.third (hSr.ext hR) rfl hlt (a := d) (v := .slice A9 d.done.length c9) p0W p1W (se_rep.2 ⟨.slice A9 d.done.length c9, rfl, p3, p4, k32.sl⟩)
          rw [set_same s.sess ja d hds.out] at h
          exact h
        have hcg9 : Chg [gs] W (W.setCell ⟨gs, ja * 3 + 2, none⟩ (.slice A9 d.done.length c9)) := (Chg.refl _ _).set (by simp) _
        go_wp2
        go_roundw
        case rel =>
          obtain ⟨cu, hcu⟩ : ∃ cu, Blk W gs 56 cu := by
            obtain ⟨cur', css', b1, -⟩ := (hSr.ext hR).blk (by omega)
            exact ⟨cur', b1⟩
          exact ⟨ja + 1, hlt, by first | rfl | go_num, (hBr.ext hR).chg hcg9 (by simpa using hne), (hLr.ext hR).lnT hcu (by decide) hcg9, hS9, (hcr.trans (hR.chg _)).then_new hcg9 (by simp; omega)⟩
        case measure => simp [intOf]; omega
    · obtain rfl : ja = s.sess.length := by omega
      have b0 := (hBr.cell 0).trans rfl
      have b1 := (hBr.cell 1).trans rfl
      have b2 := (hBr.cell 2).trans rfl
      have b3 := (hBr.cell 3).trans rfl
      replace hC := hC.chg hcr (by simp)
      have e0 := (hC.cell 0).trans rfl
      have e1 := (hC.cell 1).trans rfl
      have e2 := (hC.cell 2).trans rfl
      have e3 := (hC.cell 3).trans rfl
      have e4 := (hC.cell 4).trans rfl
      have e5 := (hC.cell 5).trans rfl
      obtain ⟨gm, hgm⟩ : ∃ gm, wr.heap.size = gm := ⟨_, rfl⟩
      have hM := Blk.new wr 107 (mkcells s c (.slice AL s.links.length cL) (.slice AL s.links.length cL) (.slice AS s.sess.length cS)).toArray
      rw [hgm] at hM
      have hx3 : Ext wr (wr.alloc (.cells (mkcells s c (.slice AL s.links.length cL) (.slice AL s.links.length cL) (.slice AS s.sess.length cS)).toArray 107)) := (Ext.rfl' wr).alloc' _
      have hL3 := (hLr.sl.mono (Y := fun k => XD X g k ∨ k = gm) fun k hk h => h.elim id fun h => by omega).ext hx3
      have hS3 := (hSr.sl.mono (Y := fun k => XD X g k ∨ k = gm) fun k hk h => h.elim id fun h => by omega).ext hx3
      have hszm : w0.heap.size ≤ wr.heap.size := hcr.size
      have hXm : ∀ k, XD X g k → k < (wr.alloc (.cells (mkcells s c (.slice AL s.links.length cL) (.slice AL s.links.length cL) (.slice AS s.sess.length cS)).toArray 107)).heap.size := fun k hk => by have := hXD k hk; have := hx3.size; omega
      have hXg : ¬ XD X g gm := fun hk => by have := hXD _ hk; omega
      replace hR := (hR.chg hcr (by simp; omega)).ext hx3
      replace hA := (hA.chg hcr (by simp; omega)).ext hx3
      have hc3 := hcr.trans (hx3.chg [g])
      go_upto_region 8 with fail
      generalize wr.alloc (.cells (mkcells s c (.slice AL s.links.length cL) (.slice AL s.links.length cL) (.slice AS s.sess.length cS)).toArray 107) = w3 at *
      clear b0 b1 b2 b3 e0 e1 e2 e3 e4 e5 hx3 hLr hSr hBr hC hcr
      go_wp2_with fail
      refine (lkmdo_b (XD X g) gm s c _ _ (.slice AS s.sess.length cS) _ hXm hXg hM hL3 hL3 hl hr hf s2 ⟨hc.t0, hc.t1⟩ hc.u1 hcn).mono ?_
      rintro e w4 ⟨t, a, hta, rfl, vl5, hM4, hL4, hc4⟩
      obtain ⟨A5, c5, rfl, -, -⟩ := hL4.form
      have hS4 := (hS3.chg hc4 (fun k hk _ => .inr (by simpa using hk))).mono (Y := XD X g) fun _ _ h => .inl h
      have hgm3 : g + 3 < gm := by have := hXD (g + 3) (.inr ⟨by omega, by omega⟩); omega
      replace hR := hR.chg hc4 (by simp; omega)
      replace hA := hA.chg hc4 (by simp; omega)
      obtain ⟨g8, hg8⟩ : ∃ g8, w4.heap.size = g8 := ⟨_, rfl⟩
      have hgm8 : gm < g8 := by have := hM4.lt; omega
      have h8 := Blk.new w4 33 (acells a).toArray
      rw [hg8] at h8
      have hx5 : Ext w4 (w4.alloc (.cells (acells a).toArray 33)) := (Ext.rfl' w4).alloc' _
      replace hR := hR.ext hx5
      replace hA := hA.ext hx5
      replace hM4 := hM4.ext hx5
      replace hL4 := hL4.ext hx5
      replace hS4 := hS4.ext hx5
      have hcw : Ext w (w4.alloc (.cells (acells a).toArray 33)) := ((hx0.then_ hc3 (by simp; omega)).then_ hc4 (by simp; omega)).trans' hx5
      go_upto_region 9 with fail
      generalize w4.alloc (.cells (acells a).toArray 33) = w5 at *
      have m1 := (hM4.cell 1).trans rfl
      have m2 := (hM4.cell 2).trans rfl
      have m3 := (hM4.cell 3).trans rfl
      have m4 := (hM4.cell 4).trans rfl
      have y0 := (h8.cell 0).trans rfl
      have y1 := (h8.cell 1).trans rfl
      have z0 := (hR.cell 0).trans rfl
      have z1 := (hR.cell 1).trans rfl
      have z2 := (hR.cell 2).trans rfl
      have z3 := (hR.cell 3).trans rfl
      have u0 := (hA.cell 0).trans rfl
      have u1 := (hA.cell 1).trans rfl
      have f0 := hR.frozen 0
      have f1 := hR.frozen 1
      have f2 := hR.frozen 2
      have f3 := hR.frozen 3
      have i0 := hA.frozen 0
      have i1 := hA.frozen 1
      have n1 : ¬ g8 = g + 1 + 1 := by omega
      have n2 : ¬ g + 1 + 1 = g8 := by omega
      have n3 : ¬ g8 = g + 1 + 1 + 1 := by omega
      have n4 : ¬ g + 1 + 1 + 1 = g8 := by omega
      have n5 : ¬ gm = g + 1 + 1 := by omega
      have n6 : ¬ g + 1 + 1 = gm := by omega
      go_region
      go_wp2
      try simp only [Exit.inBlock, Exit.then]
      have hc1 : Chg [g + 1 + 1] w5 _ := (Chg.refl [g + 1 + 1] w5).four (g := g + 1 + 1) (by simp) (.int .u64 t.now) (.int .u64 t.count) (.slice A5 t.links.length c5) (.slice AS s.sess.length cS)
      have hR' := Blk.four hR (.int .u64 t.now) (.int .u64 t.count) (.slice A5 t.links.length c5) (.slice AS s.sess.length cS)
      have hA' := hA.chg hc1 (by simp)
      have hc2 : Chg [g + 1 + 1 + 1] _ _ := (Chg.refl [g + 1 + 1 + 1] ((((w5.setCell ⟨g + 1 + 1, 0, none⟩ (.int .u64 t.now)).setCell ⟨g + 1 + 1, 1, none⟩ (.int .u64 t.count)).setCell ⟨g + 1 + 1, 2, none⟩ (.slice A5 t.links.length c5)).setCell ⟨g + 1 + 1, 3, none⟩ (.slice AS s.sess.length cS))).two_ (g := g + 1 + 1 + 1) (by simp) (.int .i64 a.err) (str a.text)
      have hA2 := Blk.two_ hA' (.int .i64 a.err) (str a.text)
      have hR2 := hR'.chg hc2 (by simp)
      have hLf := (hL4.chg hc1 (fun k hk _ => .inr (by simp at hk; omega))).chg hc2 (fun k hk _ => .inr (by simp at hk; omega))
      have hSf := (hS4.chg hc1 (fun k hk _ => .inr (by simp at hk; omega))).chg hc2 (fun k hk _ => .inr (by simp at hk; omega))
      have hxf := (hcw.then_ hc1 (by simp; omega)).then_ hc2 (by simp; omega)
      have hss : t.sess = s.sess := by
        have h1 := ldoW_sess lfind lkput s c
        rw [← hta.out] at h1
        exact h1
      have ht1 : U64 t.now := by
        have h1 := ldoW_now lfind lkput s1 (c := c) ⟨hc.t0, hc.t1⟩
        rw [← hta.out] at h1
        exact h1
      have ht2 : U64 t.count := by
        have h1 := ldoW_count lfind lkput s2 (c := c)
        rw [← hta.out] at h1
        exact h1
      refine bodyPost_ret (results_cell_cell rfl _ _ (g + 1 + 1) (g + 1 + 1 + 1) 28 33 #[.int .u64 t.now, .int .u64 t.count, .slice A5 t.links.length c5, .slice AS s.sess.length cS] (acells a).toArray (0, 0) (0, 0) _ _ rfl hR2.drew Tryz.underlying28 rfl (by kernel_rfl) rfl hA2.drew Tryz.underlying33 rfl (by kernel_rfl)) rfl ?_
      refine ⟨_, t, a, hta, rfl, ?_, hxf.drew'⟩
      refine stE.ext (st_rep.2 ⟨_, _, rfl, ht1, ht2, hLf.mono fun k _ h => .inl h, ?_⟩) ((Ext.rfl' _).drew')
      rw [hss]
      exact hSf.mono fun k _ h => .inl h
end Go.Proofs.YtamimdlaclglkaaGreat
