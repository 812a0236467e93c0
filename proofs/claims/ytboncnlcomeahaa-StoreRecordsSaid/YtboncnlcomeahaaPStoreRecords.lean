import Derived.Test.YtboncnlcomeahaaPk33
import Derived.Test.YtboncnlcomeahaaPk7
/- The law StoreRecords' walk. -/
namespace Go.Proofs.Ytboncnlcomeahaa
set_option linter.unusedVariables false
set_option linter.unusedSimpArgs false
set_option linter.unnecessarySimpa false
set_option maxRecDepth 100000
open Go.RowKit
set_option maxHeartbeats 12800000 in
theorem storeRecords_walk (xl : Value) (l : List Rec) (w : World) (hl : Enc.Sl reE w noneAt xl l) :
    Calls Try.prog 4 #[xl] w fun e w' => e = .returned (.bool true) ∧ Ext w w' := by
  obtain ⟨Ax, cx, rfl, -, -⟩ := hl.form
  have hwl : ∀ r ∈ l, r.wide := Sl.wides hl
  go_enter Try.func4, Try.ntmps4
  go_wp2_with fail
  refine (begun23_b w).mono ?_
  rintro e w1 ⟨rfl, hx1⟩
  go_wp2_with fail
  refine (plain_b (.slice Ax l.length cx) l w1 (hl.ext hx1)).mono ?_
  rintro e w2 ⟨b, rfl, hx2, hp⟩
  cases b with
  | false =>
    go_wp2
    go_ret
    exact ⟨rfl, hx1.trans' hx2⟩
  | true =>
  have hp := hp rfl
  have hls : ∀ r ∈ l, r.wide ∧ r.small := fun r hr => ⟨hwl r hr, hp.small r hr⟩
  have hlen := hp.len
  have hx := hx1.trans' hx2
  go_wp2_with fail
  refine (fold_b noneAt Kp0 (.slice none 0 0) (.slice none 0 0) (.slice Ax l.length cx) l 0 w2 (fun _ h => h.elim) Kp0.wide_ Kp0.small_ (Enc.BsX.nil _ _) (Enc.Sl.nil _ _ _) (hl.ext hx) hls (by omega)).mono ?_
  obtain ⟨kx, hkx⟩ : ∃ k, kfold Kp0 l = k := ⟨_, rfl⟩
  have hso : kfold Kp0 (krecs kx) = kx := kfold_recs (by rw [← hkx]; exact Kp.sound.fold l Kp0.sound_)
  have hkw : kx.wide := by rw [← hkx]; exact Kp.wide.fold l Kp0.wide_ fun r hr => (hls r hr).1
  have hks : kx.small 20 := by rw [← hkx]; exact (Kp.small.fold l Kp0.small_ fun r hr => (hls r hr).2).mono (by omega)
  have HSO := hide hso
  rw [hkx]
  clear hkx hso hp hls hwl hlen
  rintro e w3 ⟨Am, cm, Bm, dm, rfl, hb, he, hx3⟩
  replace hx := hx.trans' hx3
  have hen := he.sl
  have hb : Bs w3 (.slice Am kx.snap.state.length cm) kx.snap.state := hb.1
  clear he hx1 hx2 hx3 hl
  have hrs := krecs_small hks hkw (sl_terms hen)
  have hrl := hrs.2
  have HKS := hide hrs.1
  clear hrs
  obtain ⟨g, hg⟩ : ∃ g, w3.heap.size = g := ⟨_, rfl⟩
  have hQ := Blk.new w3 33 #[.int .u64 kx.hard.term, .int .i64 kx.hard.vote, .int .u64 kx.snap.index, .int .u64 kx.snap.term, .slice Am kx.snap.state.length cm, .slice Bm kx.ents.length dm]
  rw [hg] at hQ
  have hz : Ext w3 (w3.alloc (.cells #[.int .u64 kx.hard.term, .int .i64 kx.hard.vote, .int .u64 kx.snap.index, .int .u64 kx.snap.term, .slice Am kx.snap.state.length cm, .slice Bm kx.ents.length dm] 33)) := (Ext.rfl' _).alloc' _
  go_upto_region 6 with fail
  try rw [hg]
  generalize (w3.alloc (.cells #[.int .u64 kx.hard.term, .int .i64 kx.hard.vote, .int .u64 kx.snap.index, .int .u64 kx.snap.term, .slice Am kx.snap.state.length cm, .slice Bm kx.ents.length dm] 33)) = w4 at *
  replace hb := hb.ext hz
  replace hen := hen.ext hz
  replace hx := hx.trans' hz
  clear hz hg
  have HR := hide (fun W (h : Ext w4 W) => records_b noneAt kx (.slice Am kx.snap.state.length cm) (.slice Bm kx.ents.length dm) 20 W (fun _ h => h.elim) hkw hks (.of (hb.ext h)) (hen.ext h) (by omega))
  refine Rg.regionT Try.checked.mixed 18 6 (by kernel_rfl) [
    (fun x_ _ => x_ = .agg #[.int .u64 0, .int .i64 0, .int .u64 0, .int .u64 0, .slice none 0 0, .slice none 0 0]),
    (fun x_ _ => x_ = .agg #[.int .u64 kx.hard.term, .int .i64 kx.hard.vote, .int .u64 kx.snap.index, .int .u64 kx.snap.term, .slice Am kx.snap.state.length cm, .slice Bm kx.ents.length dm]),
    (fun v W => ∃ A c, v = .slice A (krecs kx).length c ∧ Enc.Sl reE W noneAt (.slice A (krecs kx).length c) (krecs kx)),
    (fun v W => ∃ A c B d, v = .agg #[.int .u64 kx.hard.term, .int .i64 kx.hard.vote, .int .u64 kx.snap.index, .int .u64 kx.snap.term, .slice A kx.snap.state.length c, .slice B kx.ents.length d] ∧ Bs W (.slice A kx.snap.state.length c) kx.snap.state ∧ Enc.Sl enE W noneAt (.slice B kx.ents.length d) kx.ents),
    (fun x_ _ => x_ = .agg #[.int .u64 kx.hard.term, .int .i64 kx.hard.vote, .int .u64 kx.snap.index, .int .u64 kx.snap.term, .slice Am kx.snap.state.length cm, .slice Bm kx.ents.length dm]),
    (fun x_ _ => x_ = .bool true)] (fun W => Ext w4 W) Ext rfl rfl rfl
    ?st ((Ext.rfl' w4).drew') ?ob ?en
  case st => exact ⟨fun _ _ _ h _ => h, fun _ _ _ h _ => h, fun _ _ _ ⟨a1_, a2_, h1_, h2_⟩ hx => ⟨a1_, a2_, h1_, h2_.ext hx⟩, fun _ _ _ ⟨a1_, a2_, a3_, a4_, h1_, h2_, h3_⟩ hx => ⟨a1_, a2_, a3_, a4_, h1_, h2_.ext hx, h3_.ext hx⟩, fun _ _ _ h _ => h, fun _ _ _ h _ => h, trivial⟩
  case ob =>
    refine ⟨Rg.at_run [] rfl ?_, ?_⟩
    · intro ρ W hR _
      refine ⟨rfl, ?_⟩
      exact Rg.run_ok (v := .agg #[.int .u64 0, .int .i64 0, .int .u64 0, .int .u64 0, .slice none 0 0, .slice none 0 0]) (by simp [execOp, Rg.ev, go_sem]) ⟨rfl, hR, Ext.rfl' _⟩
    refine ⟨Rg.at_run [3] rfl ?_, ?_⟩
    · intro ρ W hR ⟨q3, _⟩
      replace q3 : ρ 3 = .pointer (some ⟨g, 0, none⟩) := q3
      refine ⟨rfl, ?_⟩
      have c0_ : W.cell? ⟨g, 0, none⟩ = some (.int .u64 kx.hard.term) := ((hQ.ext hR).cell 0).trans rfl
      have c1_ : W.cell? ⟨g, 1, none⟩ = some (.int .i64 kx.hard.vote) := ((hQ.ext hR).cell 1).trans rfl
      have c2_ : W.cell? ⟨g, 2, none⟩ = some (.int .u64 kx.snap.index) := ((hQ.ext hR).cell 2).trans rfl
      have c3_ : W.cell? ⟨g, 3, none⟩ = some (.int .u64 kx.snap.term) := ((hQ.ext hR).cell 3).trans rfl
      have c4_ : W.cell? ⟨g, 4, none⟩ = some (.slice Am kx.snap.state.length cm) := ((hQ.ext hR).cell 4).trans rfl
      have c5_ : W.cell? ⟨g, 5, none⟩ = some (.slice Bm kx.ents.length dm) := ((hQ.ext hR).cell 5).trans rfl
      exact Rg.run_ok (v := .agg #[.int .u64 kx.hard.term, .int .i64 kx.hard.vote, .int .u64 kx.snap.index, .int .u64 kx.snap.term, .slice Am kx.snap.state.length cm, .slice Bm kx.ents.length dm]) (by simp [execOp, Rg.ev, go_sem, q3, c0_, c1_, c2_, c3_, c4_, c5_]) ⟨rfl, hR, Ext.rfl' _⟩
    refine ⟨Rg.at_run [13] rfl ?_, ?_⟩
    · intro ρ W hR ⟨q13, _⟩
      replace q13 : ρ 13 = .agg #[.int .u64 kx.hard.term, .int .i64 kx.hard.vote, .int .u64 kx.snap.index, .int .u64 kx.snap.term, .slice Am kx.snap.state.length cm, .slice Bm kx.ents.length dm] := q13
      refine ⟨rfl, ?_⟩
      refine Rg.enter_fn (args := #[.agg #[.int .u64 kx.hard.term, .int .i64 kx.hard.vote, .int .u64 kx.snap.index, .int .u64 kx.snap.term, .slice Am kx.snap.state.length cm, .slice Bm kx.ents.length dm]]) rfl (by simp only [List.map_toArray, List.map_cons, List.map_nil, Rg.ev, q13]) (by kernel_rfl) ?_
      refine (HR.out W hR).mono ?_
      rintro e_ w9 ⟨m_, A_, c_, hm_, rfl, ho_, hxx⟩
      obtain rfl : m_ = krecs kx := hm_.out
      exact ⟨_, rfl, ⟨_, _, rfl, ho_.sl⟩, hR.trans' hxx, hxx⟩
    refine ⟨Rg.at_run [12, 14] rfl ?_, ?_⟩
    · intro ρ W hR ⟨q12, q14, _⟩
      replace q12 : ρ 12 = .agg #[.int .u64 0, .int .i64 0, .int .u64 0, .int .u64 0, .slice none 0 0, .slice none 0 0] := q12
      replace q14 : (fun v W => ∃ A c, v = .slice A (krecs kx).length c ∧ Enc.Sl reE W noneAt (.slice A (krecs kx).length c) (krecs kx)) (ρ 14) W := q14
      refine ⟨rfl, ?_⟩
      obtain ⟨A9, c9, hv9, hl9⟩ := q14
      refine Rg.enter_fn (args := #[.agg #[.int .u64 0, .int .i64 0, .int .u64 0, .int .u64 0, .slice none 0 0, .slice none 0 0], .slice A9 (krecs kx).length c9]) rfl (by simp only [List.map_toArray, List.map_cons, List.map_nil, Rg.ev, q12, hv9]) (by kernel_rfl) ?_
      refine (fold_b noneAt Kp0 (.slice none 0 0) (.slice none 0 0) (.slice A9 (krecs kx).length c9) (krecs kx) 0 W (fun _ h => h.elim) Kp0.wide_ Kp0.small_ (Enc.BsX.nil _ _) (Enc.Sl.nil _ _ _) hl9 HKS.out (by omega)).mono ?_
      rw [HSO.out]
      rintro e_ w9 ⟨A_, c_, B_, d_, rfl, h1_, h2_, hxx⟩
      exact ⟨_, rfl, ⟨_, _, _, _, rfl, h1_.1, h2_.sl⟩, hR.trans' hxx, hxx⟩
    refine ⟨Rg.at_run [3] rfl ?_, ?_⟩
    · intro ρ W hR ⟨q3, _⟩
      replace q3 : ρ 3 = .pointer (some ⟨g, 0, none⟩) := q3
      refine ⟨rfl, ?_⟩
      have c0_ : W.cell? ⟨g, 0, none⟩ = some (.int .u64 kx.hard.term) := ((hQ.ext hR).cell 0).trans rfl
      have c1_ : W.cell? ⟨g, 1, none⟩ = some (.int .i64 kx.hard.vote) := ((hQ.ext hR).cell 1).trans rfl
      have c2_ : W.cell? ⟨g, 2, none⟩ = some (.int .u64 kx.snap.index) := ((hQ.ext hR).cell 2).trans rfl
      have c3_ : W.cell? ⟨g, 3, none⟩ = some (.int .u64 kx.snap.term) := ((hQ.ext hR).cell 3).trans rfl
      have c4_ : W.cell? ⟨g, 4, none⟩ = some (.slice Am kx.snap.state.length cm) := ((hQ.ext hR).cell 4).trans rfl
      have c5_ : W.cell? ⟨g, 5, none⟩ = some (.slice Bm kx.ents.length dm) := ((hQ.ext hR).cell 5).trans rfl
      exact Rg.run_ok (v := .agg #[.int .u64 kx.hard.term, .int .i64 kx.hard.vote, .int .u64 kx.snap.index, .int .u64 kx.snap.term, .slice Am kx.snap.state.length cm, .slice Bm kx.ents.length dm]) (by simp [execOp, Rg.ev, go_sem, q3, c0_, c1_, c2_, c3_, c4_, c5_]) ⟨rfl, hR, Ext.rfl' _⟩
    refine ⟨Rg.at_run [15, 16] rfl ?_, ?_⟩
    · intro ρ W hR ⟨q15, q16, _⟩
      replace q15 : (fun v W => ∃ A c B d, v = .agg #[.int .u64 kx.hard.term, .int .i64 kx.hard.vote, .int .u64 kx.snap.index, .int .u64 kx.snap.term, .slice A kx.snap.state.length c, .slice B kx.ents.length d] ∧ Bs W (.slice A kx.snap.state.length c) kx.snap.state ∧ Enc.Sl enE W noneAt (.slice B kx.ents.length d) kx.ents) (ρ 15) W := q15
      replace q16 : ρ 16 = .agg #[.int .u64 kx.hard.term, .int .i64 kx.hard.vote, .int .u64 kx.snap.index, .int .u64 kx.snap.term, .slice Am kx.snap.state.length cm, .slice Bm kx.ents.length dm] := q16
      refine ⟨rfl, ?_⟩
      obtain ⟨A9, c9, B9, d9, hv9, hb9, hl9⟩ := q15
      refine Rg.enter_fn (args := #[.agg #[.int .u64 kx.hard.term, .int .i64 kx.hard.vote, .int .u64 kx.snap.index, .int .u64 kx.snap.term, .slice A9 kx.snap.state.length c9, .slice B9 kx.ents.length d9], .agg #[.int .u64 kx.hard.term, .int .i64 kx.hard.vote, .int .u64 kx.snap.index, .int .u64 kx.snap.term, .slice Am kx.snap.state.length cm, .slice Bm kx.ents.length dm]]) rfl (by simp only [List.map_toArray, List.map_cons, List.map_nil, Rg.ev, hv9, q16]) (by kernel_rfl) ?_
      refine (sameKept_b kx (.slice A9 kx.snap.state.length c9) (.slice B9 kx.ents.length d9) (.slice Am kx.snap.state.length cm) (.slice Bm kx.ents.length dm) W hb9 (hb.ext hR) hl9 (hen.ext hR)).mono ?_
      rintro e_ w9 ⟨rfl, hxx⟩
      exact ⟨_, rfl, rfl, hR.trans' hxx, hxx⟩
    trivial
  case en =>
    intro tm W hR hsz hk
    rw [Rg.fin_eq (ds := [12, 13, 14, 15, 16, 17]) rfl rfl rfl hsz hk]
    have k12 : tm.getD 12 undef = .agg #[.int .u64 0, .int .i64 0, .int .u64 0, .int .u64 0, .slice none 0 0, .slice none 0 0] := hk 12
    have k13 : tm.getD 13 undef = .agg #[.int .u64 kx.hard.term, .int .i64 kx.hard.vote, .int .u64 kx.snap.index, .int .u64 kx.snap.term, .slice Am kx.snap.state.length cm, .slice Bm kx.ents.length dm] := hk 13
    have k14 : (fun v W => ∃ A c, v = .slice A (krecs kx).length c ∧ Enc.Sl reE W noneAt (.slice A (krecs kx).length c) (krecs kx)) (tm.getD 14 undef) W := hk 14
    have k15 : (fun v W => ∃ A c B d, v = .agg #[.int .u64 kx.hard.term, .int .i64 kx.hard.vote, .int .u64 kx.snap.index, .int .u64 kx.snap.term, .slice A kx.snap.state.length c, .slice B kx.ents.length d] ∧ Bs W (.slice A kx.snap.state.length c) kx.snap.state ∧ Enc.Sl enE W noneAt (.slice B kx.ents.length d) kx.ents) (tm.getD 15 undef) W := hk 15
    have k16 : tm.getD 16 undef = .agg #[.int .u64 kx.hard.term, .int .i64 kx.hard.vote, .int .u64 kx.snap.index, .int .u64 kx.snap.term, .slice Am kx.snap.state.length cm, .slice Bm kx.ents.length dm] := hk 16
    have k17 : tm.getD 17 undef = .bool true := hk 17
    clear hk hsz
    simp only [Rg.putAll, List.setIfInBounds_toArray, List.set_cons_zero, List.set_cons_succ, k12, k13, k16, k17]
    clear k12
    clear k13
    generalize tm.getD 14 undef = u14 at *
    generalize tm.getD 15 undef = u15 at *
    clear k16
    clear k17
    clear k14 k15
    go_wp2_with fail
    go_ret
    exact ⟨rfl, hx.trans' hR⟩

end Go.Proofs.Ytboncnlcomeahaa

/- The statement 'StoreRecordsSaid': whatever is handed in, the law answers true, and what was handed in is as it was. -/
namespace Go.Proofs.Ytboncnlcomeahaa.storeRecords
set_option linter.unusedVariables false
set_option linter.unusedSimpArgs false
set_option linter.unnecessarySimpa false
set_option maxRecDepth 100000
open Go.ChangeShapes Go.WideShapes Go.ChangeAt Go.RowKit
open Go.ChangeMaps (open_string shut_string)

set_option maxRecDepth 100000 in
set_option maxHeartbeats 2000000 in
theorem lifted (os : Os) (started : os.Started) (H : Type) (enc : TypeId × Value → H) :
    ReturnsInHanded {} Try.checked os 4 .any (Rows.storeRecordsSpec.pre6 enc Try.prog Try.f4 Rows.storeRecordsRow.domain false) (Rows.storeRecordsSpec.post enc Try.prog Try.f4 false true false false) := by
  refine returnsInHanded_of_change (C := Try.checked) own started (by kernel_rfl) Try.func4
    (ChangeSpec.witness6 (enc := enc) (C := Try.checked) false ⟨#[], #[.slice none 0 0], []⟩ 8 (by kernel_rfl) (by kernel_rfl) (by kernel_rfl) (by kernel_rfl)) ?_
  intro W base args ds gs before hval0 hW hcnd _
  have hval : ∀ (j : Nat) t v, Try.f4.params[j]? = some t → args[j]? = some v → Value.okWide Try.prog W .any base t v := hval0
  have hW' := hW
  obtain ⟨p, q, hA0, hV, rfl, hfz, hnd⟩ := hW
  have hA : DataW.TrodAll enc Try.prog W 0 (fun _ => true) true Try.f4.params.toList args.toList ds p := hA0
  rw [Try.params4] at hA hval
  obtain ⟨v0, vs0, d0, ds0, p0, q0, hargs, rfl, rfl, h0, r0⟩ := trodAll_cons hA
  obtain ⟨rfl, rfl, rfl⟩ := trodAll_nil r0
  obtain rfl : args = #[v0] := by cases args; simp_all
  obtain ⟨rfl, rfl⟩ := trodVars_none hV
  have k0 := h0
  have lt0 : ∀ x ∈ p0, x.block < W.heap.size := by obtain ⟨m, hm⟩ := k0; exact DataW.trod_lt m _ _ _ hm
  obtain ⟨a0, len0, cap0, rfl⟩ := okWide_slice Try.underlying22 (hval 0 22 v0 rfl rfl)
  obtain ⟨b0, hb0⟩ : ∃ b, Enc.Sl reE W noneAt (.slice a0 len0 cap0) b := by
    obtain ⟨fuel, hf⟩ := h0
    obtain ⟨b, v, hv, hs⟩ := (Enc.opens_slice Try.underlying22 (by kernel_rfl) (by decide) reE_opens) _ enc W fuel _ _ hf
    obtain rfl : Value.slice a0 len0 cap0 = v := by simpa [Value.cells] using hv
    exact ⟨b, hs⟩
  clear hA0 hval0
  refine (storeRecords_walk _ b0 W hb0).mono fun e W' ⟨he, bel⟩ => ?_
  subst he
  exact ⟨_, rfl, _, _, _, [], _, [], hW', trodAll_mk1 (shut_bool Try.underlying4 _), (trodAll_cons_mk (Below.trod laidOut (by kernel_rfl) (of_decide_eq_true (by kernel_rfl)) k0 bel lt0) trodAll_mk0), rfl, bel.frame _, fun h => by cases h⟩

theorem over : Rows.storeRecordsRow.holds Try.pinned (OpenSpec.ofChange Rows.storeRecordsSpec) :=
  OpenClaim.holds_of_wide 4 Try.f4 rfl rfl rfl rfl rfl rfl rfl ⟨rfl, rfl, rfl, rfl, rfl⟩ rfl rfl rfl rfl rfl (by kernel_rfl) Try.func4 (by kernel_rfl)
    (of_decide_eq_true (by kernel_rfl)) (by unfold Func.isWrapper; first | (rw [if_pos (by decide +kernel)]; kernel_rfl) | (rw [if_neg (by decide +kernel)]; exact ⟨rfl, rfl⟩))
    (fun os started H enc _ => lifted os started H enc)

/-- THE STATEMENT -/
theorem proved : Rows.StoreRecordsSaid := over
#print axioms proved
end Go.Proofs.Ytboncnlcomeahaa.storeRecords

