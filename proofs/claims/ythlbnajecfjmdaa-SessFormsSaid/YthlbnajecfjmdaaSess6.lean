/- SessForms. -/
import Derived.Test.YthlbnajecfjmdaaSess5
import Derived.Test.YthlbnajecfjmdaaRgX
namespace Go.Proofs.Ythlbnajecfjmdaa
set_option linter.unusedVariables false
set_option linter.unusedSimpArgs false
set_option linter.unnecessarySimpa false
set_option maxRecDepth 100000
open Go.RowKit
def QS : List (Int × Int × Int × Bool) := [(2, 9, 12, true), (2, 5, 14, true), (2, 6, 0, false), (2, 10, 0, false), (2, 18446744073709551615, 0, false), (1, 1, 0, false), (-1, 1, 1, true), (4, 1, 1, true), (2, 0, 1, true)]
def qcells : Array Value := (QS.flatMap fun q => (ccells (cmQ 0 q.1 q.2.1)).toList).toArray
def ecells : Array Value := (QS.map fun q => Value.int .i64 q.2.2.1).toArray
def bcells : Array Value := (QS.map fun q => Value.bool q.2.2.2).toArray
def StY : St := ⟨0, 0, [], [⟨2, 9, [⟨9, ⟨12, []⟩⟩]⟩]⟩
def StZ : St := ⟨0, 0, [], [⟨2, 13, [⟨13, ⟨0, []⟩⟩]⟩]⟩
theorem keepY : keep St0 2 9 ⟨12, []⟩ = StY := by rfl
theorem keepZ : keep StY 2 13 ⟨0, []⟩ = StZ := by rfl
theorem askZ : ask StZ 2 9 = (⟨14, []⟩, true) := by rfl
theorem riseY : RiseS StY.sess := by simp [StY, RiseS]
theorem riseZ : RiseS StZ.sess := by simp [StZ, RiseS]
theorem doneY : ∀ x ∈ StY.sess, RiseD x.done ∧ x.done.length ≤ 1000 := by simp [StY, RiseD]
theorem qs_all : ∀ m ∈ QS, I64 m.1 ∧ U64 m.2.1 ∧ ask StY m.1 m.2.1 = (⟨m.2.2.1, []⟩, m.2.2.2) := by
  intro m hm
  simp only [QS, List.mem_cons, List.not_mem_nil, or_false] at hm
  rcases hm with rfl | rfl | rfl | rfl | rfl | rfl | rfl | rfl | rfl <;> exact ⟨⟨by simp, by simp⟩, ⟨by simp, by simp⟩, by rfl⟩
theorem qs_at (k : Nat) (hk : k < 9) : ∃ c q e b, QS[k]? = some (c, q, e, b) ∧ qcells[k * 6 + 0]? = some (.int .i64 0) ∧ qcells[k * 6 + 1]? = some (.int .i64 c) ∧ qcells[k * 6 + 2]? = some (.int .u64 q) ∧ qcells[k * 6 + 3]? = some (str []) ∧
    qcells[k * 6 + 4]? = some (str []) ∧ qcells[k * 6 + 5]? = some (.int .u64 0) ∧ ecells[k]? = some (.int .i64 e) ∧ bcells[k]? = some (.bool b) := by
  have hc : k = 0 ∨ k = 1 ∨ k = 2 ∨ k = 3 ∨ k = 4 ∨ k = 5 ∨ k = 6 ∨ k = 7 ∨ k = 8 := by omega
  rcases hc with rfl | rfl | rfl | rfl | rfl | rfl | rfl | rfl | rfl <;> exact ⟨_, _, _, _, rfl, rfl, rfl, rfl, rfl, rfl, rfl, rfl, rfl⟩
theorem sask_st (s : St) (c q e : Int) (b : Bool) (W : World) (cs : List Value) (h : stE.rep W noneAt cs s) (hr : RiseS s.sess) (hl : s.sess.length ≤ 100000) (hc : I64 c) (hq : U64 q) (ha : ask s c q = (⟨e, []⟩, b)) :
    Calls Try.prog 12 #[.agg cs.toArray, cv (cmQ 0 c q)] W fun e' w' => e' = .returned (.tuple #[.agg #[.int .i64 e, str []], .bool b]) ∧ Ext W w' := by
  refine (sask_b s cs (cmQ 0 c q) W h (cmQ_wide ⟨by omega, by omega⟩ hc hq) hr hl).mono ?_
  rintro e' w' ⟨rfl, hx⟩
  rw [show ask s (cmQ 0 c q).client (cmQ 0 c q).seq = (⟨e, []⟩, b) from ha]
  exact ⟨rfl, hx⟩
set_option maxHeartbeats 3200000 in
theorem sessForms_walk (w : World) : Calls Try.prog 6 #[] w fun e w' => e = .returned (.bool true) ∧ Ext w w' := by
  have H1 := hide (fun W => skeep_b St0 _ (cmQ 1 2 9) ⟨12, []⟩ W (st0_rep W _) (cmQ_wide ⟨by omega, by omega⟩ ⟨by omega, by omega⟩ ⟨by omega, by omega⟩) ⟨⟨by simp, by simp⟩, by simp⟩ rises0 (by simp [St0]) (by simp [St0]) (by simp [St0]))
  have HA := hide (fun W c q e b (hm : (c, q, e, b) ∈ QS) cs h => sask_st StY c q e b W cs h riseY (by simp [StY]) (qs_all _ hm).1 (qs_all _ hm).2.1 (qs_all _ hm).2.2)
  have H2 := hide (fun W cs h => skeep_b StY cs (cmQ 0 2 13) ⟨0, []⟩ W h (cmQ_wide ⟨by omega, by omega⟩ ⟨by omega, by omega⟩ ⟨by omega, by omega⟩) ⟨⟨by simp, by simp⟩, by simp⟩ riseY (by simp [StY]) (by simp [StY]) doneY)
  have H3 := hide (fun W cs h => sask_b StZ cs (cmQ 1 2 9) W h (cmQ_wide ⟨by omega, by omega⟩ ⟨by omega, by omega⟩ ⟨by omega, by omega⟩) riseZ (by simp [StZ]))
  go_enter Try.func6, Try.ntmps6
  go_wp2_with fail
  refine (begun19_b _).mono ?_
  rintro e W1 ⟨rfl, hx1⟩
  obtain ⟨g1, hg1⟩ : ∃ g, W1.heap.size = g := ⟨_, rfl⟩
  have hC := Blk.new W1 28 (ccells (cmQ 1 2 9))
  rw [hg1] at hC
  have hx1' := hx1.alloc' (.cells (ccells (cmQ 1 2 9)) 28)
  go_wp2_with fail
  refine (H1.out _).mono ?_
  rintro e W2 ⟨cs, rfl, hrep, hx2⟩
  rw [show keep St0 (cmQ 1 2 9).client (cmQ 1 2 9).seq ⟨12, []⟩ = StY from keepY] at hrep
  obtain ⟨Al, cl, As, cs2, rfl, -, -, hl, hs⟩ := st_open hrep
  rw [show StY.links.length = 0 from rfl, show StY.sess.length = 1 from rfl] at hrep
  clear hl hs
  have hC2 := (hC.ext hx2)
  obtain ⟨g2, hg2⟩ : ∃ g, W2.heap.size = g := ⟨_, rfl⟩
  have hB2 := Blk.new W2 26 #[.int .u64 0, .int .u64 0, .slice Al 0 cl, .slice As 1 cs2]
  rw [hg2] at hB2
  have hx2' := (hx1'.trans' hx2).alloc' (.cells #[.int .u64 0, .int .u64 0, .slice Al 0 cl, .slice As 1 cs2] 26)
  have hR2 := stE.ext hrep ((Ext.rfl' W2).alloc' (.cells #[.int .u64 0, .int .u64 0, .slice Al 0 cl, .slice As 1 cs2] 26))
  have hC2' := hC2.alloc (.cells #[.int .u64 0, .int .u64 0, .slice Al 0 cl, .slice As 1 cs2] 26)
  have hx2a : Ext W2 (W2.alloc (.cells #[.int .u64 0, .int .u64 0, .slice Al 0 cl, .slice As 1 cs2] 26)) := (Ext.rfl' _).alloc' _
  have hsz : (W2.alloc (.cells #[.int .u64 0, .int .u64 0, .slice Al 0 cl, .slice As 1 cs2] 26)).heap.size = g2 + 1 := by simp [hg2]
  clear hg1 hC hC2
  go_wp2_with fail
  have hx2b : Ext W2 (W2.alloc (.cells #[.int .u64 0, .int .u64 0, .slice Al 0 cl, .slice As 1 cs2] 26)) := (Ext.rfl' _).alloc' _
  obtain ⟨hB3, hB4, hB5, hx3⟩ := new3 (W2.alloc (.cells #[.int .u64 0, .int .u64 0, .slice Al 0 cl, .slice As 1 cs2] 26)) 28 29 4 qcells ecells bcells
  rw [hsz] at hB3 hB4 hB5
  replace hB5 : Blk ((((W2.alloc (.cells #[.int .u64 0, .int .u64 0, .slice Al 0 cl, .slice As 1 cs2] 26)).alloc (.cells qcells 28)).alloc (.cells ecells 29)).alloc (.cells bcells 4)) (g2 + 1 + 1 + 1) 4 bcells := hB5
  have hx4 := hx2'.trans' hx3
  have hR3 := stE.ext hR2 hx3
  have hC3 := hC2'.ext hx3
  have hB23 := hB2.ext hx3
  clear hB2 hC2' hR2
  go_loopw [6] (fun i wr => ∃ k : Nat, k ≤ 9 ∧ i = .int .i64 k ∧ Ext ((((W2.alloc (.cells #[.int .u64 0, .int .u64 0, .slice Al 0 cl, .slice As 1 cs2] 26)).alloc (.cells qcells 28)).alloc (.cells ecells 29)).alloc (.cells bcells 4)) wr) (fun i _ => (9 - intOf i).toNat)
  case atStart => exact ⟨0, by omega, rfl, Ext.rfl' _⟩
  case round =>
    obtain ⟨k, hk, rfl, hx⟩ := hrel
    generalize ((((W2.alloc (.cells #[.int .u64 0, .int .u64 0, .slice Al 0 cl, .slice As 1 cs2] 26)).alloc (.cells qcells 28)).alloc (.cells ecells 29)).alloc (.cells bcells 4)) = W3 at *
    by_cases hlt : k < 9
    · obtain ⟨c, q, e, b, hm, m0, m1, m2, m3, m4, m5, m6, m7⟩ := qs_at k hlt
      replace hm := List.mem_of_getElem? hm
      have hb1 : (0 : Int) ≤ k := by omega
      have hb2 : (k : Int) < 9 := by omega
      go_wp2_with fail
      refine Rg.regionX Try.checked.mixed 100 10 8 45 _ _ (by rfl) (by rfl) (by kernel_rfl) [
        (fun x_ _ => x_ = .agg #[.int .u64 0, .int .u64 0, .slice Al 0 cl, .slice As 1 cs2]),
        (fun x_ _ => x_ = .slice (some ⟨g2 + 1, 0, none⟩) 9 9),
        (fun x_ _ => x_ = .int .i64 k),
        (fun x_ _ => x_ = .pointer (some ⟨(g2 + 1), k * 6, none⟩)),
        (fun x_ _ => x_ = cv (cmQ 0 c q)),
        (fun x_ _ => x_ = .tuple #[.agg #[.int .i64 e, str []], .bool b]),
        (fun x_ _ => x_ = .tuple #[.agg #[.int .i64 e, str []], .bool b]),
        (fun x_ _ => x_ = .agg #[.int .i64 e, str []]),
        (fun x_ _ => x_ = .bool b),
        (fun v W => ∃ g, v = .pointer (some ⟨g, 0, none⟩) ∧ Blk W g 31 #[.int .i64 0, str []] ∧ wr.heap.size ≤ g)] (fun W => Ext wr W) Ext rfl rfl rfl
        ?st ((Ext.rfl' wr).drew') ?ob ?en ?en2
      case st => exact ⟨fun _ _ _ h _ => h, fun _ _ _ h _ => h, fun _ _ _ h _ => h, fun _ _ _ h _ => h, fun _ _ _ h _ => h, fun _ _ _ h _ => h, fun _ _ _ h _ => h, fun _ _ _ h _ => h, fun _ _ _ h _ => h, fun _ _ _ ⟨g_, h1_, h2_, h3_⟩ hx => ⟨g_, h1_, h2_.ext hx, h3_⟩, trivial⟩
      case ob =>
        refine ⟨Rg.at_run [2] rfl ?_, ?_⟩
        · intro ρ W hR ⟨q2, _⟩
          replace q2 : ρ 2 = .pointer (some ⟨g2, 0, none⟩) := q2
          refine ⟨rfl, ?_⟩
          have c0_ : W.cell? ⟨g2, 0, none⟩ = some (.int .u64 0) := (((hB23.ext hx).ext hR).cell 0).trans rfl
          have c1_ : W.cell? ⟨g2, 1, none⟩ = some (.int .u64 0) := (((hB23.ext hx).ext hR).cell 1).trans rfl
          have c2_ : W.cell? ⟨g2, 2, none⟩ = some (.slice Al 0 cl) := (((hB23.ext hx).ext hR).cell 2).trans rfl
          have c3_ : W.cell? ⟨g2, 3, none⟩ = some (.slice As 1 cs2) := (((hB23.ext hx).ext hR).cell 3).trans rfl
          exact Rg.run_ok (v := .agg #[.int .u64 0, .int .u64 0, .slice Al 0 cl, .slice As 1 cs2]) (by simp [execOp, Rg.ev, go_sem, q2, c0_, c1_, c2_, c3_]) ⟨rfl, hR, Ext.rfl' _⟩
        refine ⟨Rg.at_run [3] rfl ?_, ?_⟩
        · intro ρ W hR ⟨q3, _⟩
          replace q3 : ρ 3 = .slice (some ⟨g2 + 1, 0, none⟩) 9 9 := q3
          refine ⟨rfl, ?_⟩
          exact Rg.run_ok (v := .slice (some ⟨g2 + 1, 0, none⟩) 9 9) (by simp [execOp, Rg.ev, go_sem, q3]) ⟨rfl, hR, Ext.rfl' _⟩
        refine ⟨Rg.at_run [6] rfl ?_, ?_⟩
        · intro ρ W hR ⟨q6, _⟩
          replace q6 : ρ 6 = .int .i64 k := q6
          refine ⟨rfl, ?_⟩
          exact Rg.run_ok (v := .int .i64 k) (by simp [execOp, Rg.ev, go_sem, q6]) ⟨rfl, hR, Ext.rfl' _⟩
        refine ⟨Rg.at_run [39, 40] rfl ?_, ?_⟩
        · intro ρ W hR ⟨q39, q40, _⟩
          replace q39 : ρ 39 = .slice (some ⟨g2 + 1, 0, none⟩) 9 9 := q39
          replace q40 : ρ 40 = .int .i64 k := q40
          refine ⟨rfl, ?_⟩
          exact Rg.run_ok (v := .pointer (some ⟨g2 + 1, k * 6, none⟩)) (by simp [execOp, Rg.ev, go_sem, q39, q40, hb1, hb2]) ⟨rfl, hR, Ext.rfl' _⟩
        refine ⟨Rg.at_run [41] rfl ?_, ?_⟩
        · intro ρ W hR ⟨q41, _⟩
          replace q41 : ρ 41 = .pointer (some ⟨(g2 + 1), k * 6, none⟩) := q41
          refine ⟨rfl, ?_⟩
          have c0_ : W.cell? ⟨g2 + 1, k * 6, none⟩ = some (.int .i64 0) := ((hB3.ext (hx.trans' hR)).cell (k * 6 + 0)).trans m0
          have c1_ : W.cell? ⟨g2 + 1, k * 6 + 1, none⟩ = some (.int .i64 c) := ((hB3.ext (hx.trans' hR)).cell (k * 6 + 1)).trans m1
          have c2_ : W.cell? ⟨g2 + 1, k * 6 + 2, none⟩ = some (.int .u64 q) := ((hB3.ext (hx.trans' hR)).cell (k * 6 + 2)).trans m2
          have c3_ : W.cell? ⟨g2 + 1, k * 6 + 3, none⟩ = some (str []) := ((hB3.ext (hx.trans' hR)).cell (k * 6 + 3)).trans m3
          have c4_ : W.cell? ⟨g2 + 1, k * 6 + 4, none⟩ = some (str []) := ((hB3.ext (hx.trans' hR)).cell (k * 6 + 4)).trans m4
          have c5_ : W.cell? ⟨g2 + 1, k * 6 + 5, none⟩ = some (.int .u64 0) := ((hB3.ext (hx.trans' hR)).cell (k * 6 + 5)).trans m5
          exact Rg.run_ok (v := cv (cmQ 0 c q)) (by simp [execOp, Rg.ev, go_sem, q41, c0_, c1_, c2_, c3_, c4_, c5_]; exact ⟨rfl, rfl, rfl, rfl, rfl, rfl⟩) ⟨rfl, hR, Ext.rfl' _⟩
        refine ⟨Rg.at_run [38, 42] rfl ?_, ?_⟩
        · intro ρ W hR ⟨q38, q42, _⟩
          replace q38 : ρ 38 = .agg #[.int .u64 0, .int .u64 0, .slice Al 0 cl, .slice As 1 cs2] := q38
          replace q42 : ρ 42 = cv (cmQ 0 c q) := q42
          refine ⟨rfl, ?_⟩
          refine Rg.run_enter (by simp [execOp, Rg.ev, go_sem, q38, q42]; exact ⟨⟨rfl, rfl⟩, rfl⟩) ?_
          refine (HA.out W c q e b hm _ (stE.ext hR3 (hx.trans' hR))).mono ?_
          rintro e_ w2 ⟨rfl, hxx⟩
          exact ⟨_, rfl, rfl, hR.trans' hxx, hxx⟩
        refine ⟨Rg.at_run [43] rfl ?_, ?_⟩
        · intro ρ W hR ⟨q43, _⟩
          replace q43 : ρ 43 = .tuple #[.agg #[.int .i64 e, str []], .bool b] := q43
          refine ⟨rfl, ?_⟩
          exact Rg.run_ok (v := .tuple #[.agg #[.int .i64 e, str []], .bool b]) (by simp [execOp, Rg.ev, go_sem, q43]) ⟨rfl, hR, Ext.rfl' _⟩
        refine ⟨Rg.at_run [37] rfl ?_, ?_⟩
        · intro ρ W hR ⟨q37, _⟩
          replace q37 : ρ 37 = .tuple #[.agg #[.int .i64 e, str []], .bool b] := q37
          refine ⟨rfl, ?_⟩
          exact Rg.run_ok (v := .agg #[.int .i64 e, str []]) (by simp [execOp, Rg.ev, go_sem, q37]) ⟨rfl, hR, Ext.rfl' _⟩
        refine ⟨Rg.at_run [37] rfl ?_, ?_⟩
        · intro ρ W hR ⟨q37, _⟩
          replace q37 : ρ 37 = .tuple #[.agg #[.int .i64 e, str []], .bool b] := q37
          refine ⟨rfl, ?_⟩
          exact Rg.run_ok (v := .bool b) (by simp [execOp, Rg.ev, go_sem, q37]) ⟨rfl, hR, Ext.rfl' _⟩
        refine ⟨Rg.at_run [] rfl ?_, ?_⟩
        · intro ρ W hR _
          refine ⟨rfl, ?_⟩
          exact Rg.run_ok (v := .pointer (some ⟨W.heap.size, 0, none⟩)) (W' := W.alloc (.cells #[.int .i64 0, str []] 31)) (by kernel_rfl) ⟨⟨_, rfl, Blk.new _ _ _, hR.size⟩, hR.alloc' _, (Ext.rfl' _).alloc' _⟩
        trivial
      case en =>
        intro tm W hR hsz hk
        rw [Rg.fin_eq (ds := [38, 39, 40, 41, 42, 43, 37, 44, 45, 7]) rfl rfl rfl hsz hk]
        have k7 : (fun v W => ∃ g, v = .pointer (some ⟨g, 0, none⟩) ∧ Blk W g 31 #[.int .i64 0, str []] ∧ wr.heap.size ≤ g) (tm.getD 7 undef) W := hk 7
        have k37 : tm.getD 37 undef = .tuple #[.agg #[.int .i64 e, str []], .bool b] := hk 37
        have k38 : tm.getD 38 undef = .agg #[.int .u64 0, .int .u64 0, .slice Al 0 cl, .slice As 1 cs2] := hk 38
        have k39 : tm.getD 39 undef = .slice (some ⟨g2 + 1, 0, none⟩) 9 9 := hk 39
        have k40 : tm.getD 40 undef = .int .i64 k := hk 40
        have k41 : tm.getD 41 undef = .pointer (some ⟨(g2 + 1), k * 6, none⟩) := hk 41
        have k42 : tm.getD 42 undef = cv (cmQ 0 c q) := hk 42
        have k43 : tm.getD 43 undef = .tuple #[.agg #[.int .i64 e, str []], .bool b] := hk 43
        have k44 : tm.getD 44 undef = .agg #[.int .i64 e, str []] := hk 44
        have k45 : tm.getD 45 undef = .bool b := hk 45
        clear hk hsz
        simp only [Rg.putAll, List.setIfInBounds_toArray, List.set_cons_zero, List.set_cons_succ, k37, k38, k39, k40, k41, k42, k43, k44, k45]
        generalize tm.getD 7 undef = u7 at *
        clear k37
        clear k38
        clear k39
        clear k40
        clear k41
        clear k42
        clear k43
        clear k44
        clear k45
        obtain ⟨g7, hg7, hB7, hle7⟩ := k7
        subst hg7
        have z0 := (hB7.cell 0).trans rfl
        have z1 := (hB7.cell 1).trans rfl
        have f0 := hB7.frozen 0
        have f1 := hB7.frozen 1
        have hcg : Chg [g7] W ((W.setCell ⟨g7, 0, none⟩ (.int .i64 e)).setCell ⟨g7, 1, none⟩ (str [])) := ((Chg.refl _ _).set (by simp) _).set (by simp) _
        have hW' := hx.trans' (hR.then_ hcg (by simpa using hle7))
        have e0 := ((hB4.ext hW').cell k).trans m6
        have e1 := ((hB5.ext hW').cell k).trans m7
        have hB75 := (hB7.set_ 0 (.int .i64 e)).set_ 1 (str [])
        have hB45 := hB4.ext hW'
        have hB55 := hB5.ext hW'
        go_wp2_with fail
        generalize ((W.setCell ⟨g7, 0, none⟩ (.int .i64 e)).setCell ⟨g7, 1, none⟩ (str [])) = W5 at *
        refine Rg.regionT Try.checked.mixed 100 15 (by kernel_rfl) [
          (fun x_ _ => x_ = .pointer (some ⟨g7, 0, none⟩)),
          (fun x_ _ => x_ = .int .i64 e),
          (fun x_ _ => x_ = .slice (some ⟨g2 + 1 + 1, 0, none⟩) 9 9),
          (fun x_ _ => x_ = .int .i64 k),
          (fun x_ _ => x_ = .pointer (some ⟨g2 + 1 + 1, k, none⟩)),
          (fun x_ _ => x_ = .int .i64 e),
          (fun x_ _ => x_ = .bool false),
          (fun x_ _ => x_ = .bool false),
          (fun x_ _ => x_ = .bool b),
          (fun x_ _ => x_ = .slice (some ⟨g2 + 1 + 1 + 1, 0, none⟩) 9 9),
          (fun x_ _ => x_ = .int .i64 k),
          (fun x_ _ => x_ = .pointer (some ⟨g2 + 1 + 1 + 1, k, none⟩)),
          (fun x_ _ => x_ = .bool b),
          (fun x_ _ => x_ = .bool false),
          (fun x_ _ => x_ = .bool false)] (fun W => Ext W5 W) Ext rfl rfl rfl
          ?st ((Ext.rfl' W5).drew') ?ob ?en
        case st => exact ⟨fun _ _ _ h _ => h, fun _ _ _ h _ => h, fun _ _ _ h _ => h, fun _ _ _ h _ => h, fun _ _ _ h _ => h, fun _ _ _ h _ => h, fun _ _ _ h _ => h, fun _ _ _ h _ => h, fun _ _ _ h _ => h, fun _ _ _ h _ => h, fun _ _ _ h _ => h, fun _ _ _ h _ => h, fun _ _ _ h _ => h, fun _ _ _ h _ => h, fun _ _ _ h _ => h, trivial⟩
        case ob =>
          refine ⟨Rg.at_run [7] rfl ?_, ?_⟩
          · intro ρ W hR ⟨q7, _⟩
            replace q7 : ρ 7 = .pointer (some ⟨g7, 0, none⟩) := q7
            refine ⟨rfl, ?_⟩
            exact Rg.run_ok (v := .pointer (some ⟨g7, 0, none⟩)) (by simp [execOp, Rg.ev, go_sem, q7]) ⟨rfl, hR, Ext.rfl' _⟩
          refine ⟨Rg.at_run [46] rfl ?_, ?_⟩
          · intro ρ W hR ⟨q46, _⟩
            replace q46 : ρ 46 = .pointer (some ⟨g7, 0, none⟩) := q46
            refine ⟨rfl, ?_⟩
            have c0_ : W.cell? ⟨g7, 0, none⟩ = some (.int .i64 e) := ((hB75.ext hR).cell 0).trans rfl
            exact Rg.run_ok (v := .int .i64 e) (by simp [execOp, Rg.ev, go_sem, q46, c0_]) ⟨rfl, hR, Ext.rfl' _⟩
          refine ⟨Rg.at_run [4] rfl ?_, ?_⟩
          · intro ρ W hR ⟨q4, _⟩
            replace q4 : ρ 4 = .slice (some ⟨g2 + 1 + 1, 0, none⟩) 9 9 := q4
            refine ⟨rfl, ?_⟩
            exact Rg.run_ok (v := .slice (some ⟨g2 + 1 + 1, 0, none⟩) 9 9) (by simp [execOp, Rg.ev, go_sem, q4]) ⟨rfl, hR, Ext.rfl' _⟩
          refine ⟨Rg.at_run [6] rfl ?_, ?_⟩
          · intro ρ W hR ⟨q6, _⟩
            replace q6 : ρ 6 = .int .i64 k := q6
            refine ⟨rfl, ?_⟩
            exact Rg.run_ok (v := .int .i64 k) (by simp [execOp, Rg.ev, go_sem, q6]) ⟨rfl, hR, Ext.rfl' _⟩
          refine ⟨Rg.at_run [48, 49] rfl ?_, ?_⟩
          · intro ρ W hR ⟨q48, q49, _⟩
            replace q48 : ρ 48 = .slice (some ⟨g2 + 1 + 1, 0, none⟩) 9 9 := q48
            replace q49 : ρ 49 = .int .i64 k := q49
            refine ⟨rfl, ?_⟩
            exact Rg.run_ok (v := .pointer (some ⟨g2 + 1 + 1, k, none⟩)) (by simp [execOp, Rg.ev, go_sem, q48, q49, hb1, hb2]) ⟨rfl, hR, Ext.rfl' _⟩
          refine ⟨Rg.at_run [50] rfl ?_, ?_⟩
          · intro ρ W hR ⟨q50, _⟩
            replace q50 : ρ 50 = .pointer (some ⟨g2 + 1 + 1, k, none⟩) := q50
            refine ⟨rfl, ?_⟩
            have c_ : W.cell? ⟨g2 + 1 + 1, k, none⟩ = some (.int .i64 e) := by rw [hR.cell (by show g2 + 1 + 1 < W5.heap.size; exact (hB45).lt)]; exact e0
            exact Rg.run_ok (v := .int .i64 e) (by simp [execOp, Rg.ev, go_sem, q50, c_]) ⟨rfl, hR, Ext.rfl' _⟩
          refine ⟨Rg.at_run [47, 51] rfl ?_, ?_⟩
          · intro ρ W hR ⟨q47, q51, _⟩
            replace q47 : ρ 47 = .int .i64 e := q47
            replace q51 : ρ 51 = .int .i64 e := q51
            refine ⟨rfl, ?_⟩
            exact Rg.run_ok (v := .bool false) (by simp [execOp, Rg.ev, go_sem, q47, q51]) ⟨rfl, hR, Ext.rfl' _⟩
          refine ⟨Rg.at_run [52] rfl ?_, ?_⟩
          · intro ρ W hR ⟨q52, _⟩
            replace q52 : ρ 52 = .bool false := q52
            refine ⟨rfl, ?_⟩
            exact Rg.run_ok (v := .bool false) (by simp [execOp, Rg.ev, go_sem, q52]) ⟨rfl, hR, Ext.rfl' _⟩
          refine ⟨Rg.at_run [8, 53] rfl ?_, ?_⟩
          · intro ρ W hR ⟨q8, q53, _⟩
            replace q8 : ρ 8 = .bool b := q8
            replace q53 : ρ 53 = .bool false := q53
            refine ⟨by simp [Rg.wants, q53], ?_⟩
            exact Rg.run_ok (v := .bool b) (by simp [execOp, Rg.ev, go_sem, q8]) ⟨rfl, hR, Ext.rfl' _⟩
          refine ⟨Rg.at_run [5, 53] rfl ?_, ?_⟩
          · intro ρ W hR ⟨q5, q53, _⟩
            replace q5 : ρ 5 = .slice (some ⟨g2 + 1 + 1 + 1, 0, none⟩) 9 9 := q5
            replace q53 : ρ 53 = .bool false := q53
            refine ⟨by simp [Rg.wants, q53], ?_⟩
            exact Rg.run_ok (v := .slice (some ⟨g2 + 1 + 1 + 1, 0, none⟩) 9 9) (by simp [execOp, Rg.ev, go_sem, q5]) ⟨rfl, hR, Ext.rfl' _⟩
          refine ⟨Rg.at_run [6, 53] rfl ?_, ?_⟩
          · intro ρ W hR ⟨q6, q53, _⟩
            replace q6 : ρ 6 = .int .i64 k := q6
            replace q53 : ρ 53 = .bool false := q53
            refine ⟨by simp [Rg.wants, q53], ?_⟩
            exact Rg.run_ok (v := .int .i64 k) (by simp [execOp, Rg.ev, go_sem, q6]) ⟨rfl, hR, Ext.rfl' _⟩
          refine ⟨Rg.at_run [55, 56, 53] rfl ?_, ?_⟩
          · intro ρ W hR ⟨q55, q56, q53, _⟩
            replace q55 : ρ 55 = .slice (some ⟨g2 + 1 + 1 + 1, 0, none⟩) 9 9 := q55
            replace q56 : ρ 56 = .int .i64 k := q56
            replace q53 : ρ 53 = .bool false := q53
            refine ⟨by simp [Rg.wants, q53], ?_⟩
            exact Rg.run_ok (v := .pointer (some ⟨g2 + 1 + 1 + 1, k, none⟩)) (by simp [execOp, Rg.ev, go_sem, q55, q56, hb1, hb2]) ⟨rfl, hR, Ext.rfl' _⟩
          refine ⟨Rg.at_run [57, 53] rfl ?_, ?_⟩
          · intro ρ W hR ⟨q57, q53, _⟩
            replace q57 : ρ 57 = .pointer (some ⟨g2 + 1 + 1 + 1, k, none⟩) := q57
            replace q53 : ρ 53 = .bool false := q53
            refine ⟨by simp [Rg.wants, q53], ?_⟩
            have c_ : W.cell? ⟨g2 + 1 + 1 + 1, k, none⟩ = some (.bool b) := by rw [hR.cell (by show g2 + 1 + 1 + 1 < W5.heap.size; exact (hB55).lt)]; exact e1
            exact Rg.run_ok (v := .bool b) (by simp [execOp, Rg.ev, go_sem, q57, c_]) ⟨rfl, hR, Ext.rfl' _⟩
          refine ⟨Rg.at_run [54, 58, 53] rfl ?_, ?_⟩
          · intro ρ W hR ⟨q54, q58, q53, _⟩
            replace q54 : ρ 54 = .bool b := q54
            replace q58 : ρ 58 = .bool b := q58
            replace q53 : ρ 53 = .bool false := q53
            refine ⟨by simp [Rg.wants, q53], ?_⟩
            exact Rg.run_ok (v := .bool false) (by simp [execOp, Rg.ev, go_sem, q54, q58]) ⟨rfl, hR, Ext.rfl' _⟩
          refine ⟨Rg.at_run [53, 59] rfl ?_, ?_⟩
          · intro ρ W hR ⟨q53, q59, _⟩
            replace q53 : ρ 53 = .bool false := q53
            replace q59 : ρ 59 = .bool false := q59
            refine ⟨rfl, ?_⟩
            exact Rg.run_ok (v := .bool false) (by simp [execOp, Rg.ev, go_sem, q53, q59]) ⟨rfl, hR, Ext.rfl' _⟩
          trivial
        case en =>
          intro tm W hR hsz hk
          rw [Rg.fin_eq (ds := [46, 47, 48, 49, 50, 51, 52, 53, 54, 55, 56, 57, 58, 59, 60]) rfl rfl rfl hsz hk]
          have k46 : tm.getD 46 undef = .pointer (some ⟨g7, 0, none⟩) := hk 46
          have k47 : tm.getD 47 undef = .int .i64 e := hk 47
          have k48 : tm.getD 48 undef = .slice (some ⟨g2 + 1 + 1, 0, none⟩) 9 9 := hk 48
          have k49 : tm.getD 49 undef = .int .i64 k := hk 49
          have k50 : tm.getD 50 undef = .pointer (some ⟨g2 + 1 + 1, k, none⟩) := hk 50
          have k51 : tm.getD 51 undef = .int .i64 e := hk 51
          have k52 : tm.getD 52 undef = .bool false := hk 52
          have k53 : tm.getD 53 undef = .bool false := hk 53
          have k54 : tm.getD 54 undef = .bool b := hk 54
          have k55 : tm.getD 55 undef = .slice (some ⟨g2 + 1 + 1 + 1, 0, none⟩) 9 9 := hk 55
          have k56 : tm.getD 56 undef = .int .i64 k := hk 56
          have k57 : tm.getD 57 undef = .pointer (some ⟨g2 + 1 + 1 + 1, k, none⟩) := hk 57
          have k58 : tm.getD 58 undef = .bool b := hk 58
          have k59 : tm.getD 59 undef = .bool false := hk 59
          have k60 : tm.getD 60 undef = .bool false := hk 60
          clear hk hsz
          simp only [Rg.putAll, List.setIfInBounds_toArray, List.set_cons_zero, List.set_cons_succ, k46, k47, k48, k49, k50, k51, k52, k53, k54, k55, k56, k57, k58, k59, k60]
          clear k46
          clear k47
          clear k48
          clear k49
          clear k50
          clear k51
          clear k52
          clear k53
          clear k54
          clear k55
          clear k56
          clear k57
          clear k58
          clear k59
          clear k60
          refine Rg.nil_list ?_
          go_wp2
          go_roundw
          case rel => exact ⟨k + 1, hlt, by first | rfl | go_num, hW'.trans' hR⟩
          case measure => simp [intOf]; omega
      case en2 =>
        intro tm W hR hsz hk
        rw [Rg.fin_eqX (ds := [38, 39, 40, 41, 42, 43, 37, 44, 45, 7]) rfl (by decide) rfl rfl hsz hk]
        have k7 : (fun v W => ∃ g, v = .pointer (some ⟨g, 0, none⟩) ∧ Blk W g 31 #[.int .i64 0, str []] ∧ wr.heap.size ≤ g) (tm.getD 7 undef) W := hk 7
        have k37 : tm.getD 37 undef = .tuple #[.agg #[.int .i64 e, str []], .bool b] := hk 37
        have k38 : tm.getD 38 undef = .agg #[.int .u64 0, .int .u64 0, .slice Al 0 cl, .slice As 1 cs2] := hk 38
        have k39 : tm.getD 39 undef = .slice (some ⟨g2 + 1, 0, none⟩) 9 9 := hk 39
        have k40 : tm.getD 40 undef = .int .i64 k := hk 40
        have k41 : tm.getD 41 undef = .pointer (some ⟨(g2 + 1), k * 6, none⟩) := hk 41
        have k42 : tm.getD 42 undef = cv (cmQ 0 c q) := hk 42
        have k43 : tm.getD 43 undef = .tuple #[.agg #[.int .i64 e, str []], .bool b] := hk 43
        have k44 : tm.getD 44 undef = .agg #[.int .i64 e, str []] := hk 44
        clear hk hsz
        simp only [Rg.putAll, List.setIfInBounds_toArray, List.set_cons_zero, List.set_cons_succ, k37, k38, k39, k40, k41, k42, k43, k44]
        generalize tm.getD 7 undef = u7 at *
        clear k37
        clear k38
        clear k39
        clear k40
        clear k41
        clear k42
        clear k43
        clear k44
        generalize tm.getD 45 undef = u45 at *
        obtain ⟨g7, hg7, hB7, hle7⟩ := k7
        subst hg7
        have z0 := (hB7.cell 0).trans rfl
        have z1 := (hB7.cell 1).trans rfl
        have f0 := hB7.frozen 0
        have f1 := hB7.frozen 1
        have hcg : Chg [g7] W ((W.setCell ⟨g7, 0, none⟩ (.int .i64 e)).setCell ⟨g7, 1, none⟩ (str [])) := ((Chg.refl _ _).set (by simp) _).set (by simp) _
        have hW' := hx.trans' (hR.then_ hcg (by simpa using hle7))
        have e0 := ((hB4.ext hW').cell k).trans m6
        have e1 := ((hB5.ext hW').cell k).trans m7
        have hB75 := (hB7.set_ 0 (.int .i64 e)).set_ 1 (str [])
        have hB45 := hB4.ext hW'
        have hB55 := hB5.ext hW'
        go_wp2_with fail
        generalize ((W.setCell ⟨g7, 0, none⟩ (.int .i64 e)).setCell ⟨g7, 1, none⟩ (str [])) = W5 at *
        refine Rg.regionT Try.checked.mixed 100 15 (by kernel_rfl) [
          (fun x_ _ => x_ = .pointer (some ⟨g7, 0, none⟩)),
          (fun x_ _ => x_ = .int .i64 e),
          (fun x_ _ => x_ = .slice (some ⟨g2 + 1 + 1, 0, none⟩) 9 9),
          (fun x_ _ => x_ = .int .i64 k),
          (fun x_ _ => x_ = .pointer (some ⟨g2 + 1 + 1, k, none⟩)),
          (fun x_ _ => x_ = .int .i64 e),
          (fun x_ _ => x_ = .bool false),
          (fun x_ _ => x_ = .bool false),
          (fun x_ _ => x_ = .bool b),
          (fun x_ _ => x_ = .slice (some ⟨g2 + 1 + 1 + 1, 0, none⟩) 9 9),
          (fun x_ _ => x_ = .int .i64 k),
          (fun x_ _ => x_ = .pointer (some ⟨g2 + 1 + 1 + 1, k, none⟩)),
          (fun x_ _ => x_ = .bool b),
          (fun x_ _ => x_ = .bool false),
          (fun x_ _ => x_ = .bool false)] (fun W => Ext W5 W) Ext rfl rfl rfl
          ?st ((Ext.rfl' W5).drew') ?ob ?en
        case st => exact ⟨fun _ _ _ h _ => h, fun _ _ _ h _ => h, fun _ _ _ h _ => h, fun _ _ _ h _ => h, fun _ _ _ h _ => h, fun _ _ _ h _ => h, fun _ _ _ h _ => h, fun _ _ _ h _ => h, fun _ _ _ h _ => h, fun _ _ _ h _ => h, fun _ _ _ h _ => h, fun _ _ _ h _ => h, fun _ _ _ h _ => h, fun _ _ _ h _ => h, fun _ _ _ h _ => h, trivial⟩
        case ob =>
          refine ⟨Rg.at_run [7] rfl ?_, ?_⟩
          · intro ρ W hR ⟨q7, _⟩
            replace q7 : ρ 7 = .pointer (some ⟨g7, 0, none⟩) := q7
            refine ⟨rfl, ?_⟩
            exact Rg.run_ok (v := .pointer (some ⟨g7, 0, none⟩)) (by simp [execOp, Rg.ev, go_sem, q7]) ⟨rfl, hR, Ext.rfl' _⟩
          refine ⟨Rg.at_run [46] rfl ?_, ?_⟩
          · intro ρ W hR ⟨q46, _⟩
            replace q46 : ρ 46 = .pointer (some ⟨g7, 0, none⟩) := q46
            refine ⟨rfl, ?_⟩
            have c0_ : W.cell? ⟨g7, 0, none⟩ = some (.int .i64 e) := ((hB75.ext hR).cell 0).trans rfl
            exact Rg.run_ok (v := .int .i64 e) (by simp [execOp, Rg.ev, go_sem, q46, c0_]) ⟨rfl, hR, Ext.rfl' _⟩
          refine ⟨Rg.at_run [4] rfl ?_, ?_⟩
          · intro ρ W hR ⟨q4, _⟩
            replace q4 : ρ 4 = .slice (some ⟨g2 + 1 + 1, 0, none⟩) 9 9 := q4
            refine ⟨rfl, ?_⟩
            exact Rg.run_ok (v := .slice (some ⟨g2 + 1 + 1, 0, none⟩) 9 9) (by simp [execOp, Rg.ev, go_sem, q4]) ⟨rfl, hR, Ext.rfl' _⟩
          refine ⟨Rg.at_run [6] rfl ?_, ?_⟩
          · intro ρ W hR ⟨q6, _⟩
            replace q6 : ρ 6 = .int .i64 k := q6
            refine ⟨rfl, ?_⟩
            exact Rg.run_ok (v := .int .i64 k) (by simp [execOp, Rg.ev, go_sem, q6]) ⟨rfl, hR, Ext.rfl' _⟩
          refine ⟨Rg.at_run [48, 49] rfl ?_, ?_⟩
          · intro ρ W hR ⟨q48, q49, _⟩
            replace q48 : ρ 48 = .slice (some ⟨g2 + 1 + 1, 0, none⟩) 9 9 := q48
            replace q49 : ρ 49 = .int .i64 k := q49
            refine ⟨rfl, ?_⟩
            exact Rg.run_ok (v := .pointer (some ⟨g2 + 1 + 1, k, none⟩)) (by simp [execOp, Rg.ev, go_sem, q48, q49, hb1, hb2]) ⟨rfl, hR, Ext.rfl' _⟩
          refine ⟨Rg.at_run [50] rfl ?_, ?_⟩
          · intro ρ W hR ⟨q50, _⟩
            replace q50 : ρ 50 = .pointer (some ⟨g2 + 1 + 1, k, none⟩) := q50
            refine ⟨rfl, ?_⟩
            have c_ : W.cell? ⟨g2 + 1 + 1, k, none⟩ = some (.int .i64 e) := by rw [hR.cell (by show g2 + 1 + 1 < W5.heap.size; exact (hB45).lt)]; exact e0
            exact Rg.run_ok (v := .int .i64 e) (by simp [execOp, Rg.ev, go_sem, q50, c_]) ⟨rfl, hR, Ext.rfl' _⟩
          refine ⟨Rg.at_run [47, 51] rfl ?_, ?_⟩
          · intro ρ W hR ⟨q47, q51, _⟩
            replace q47 : ρ 47 = .int .i64 e := q47
            replace q51 : ρ 51 = .int .i64 e := q51
            refine ⟨rfl, ?_⟩
            exact Rg.run_ok (v := .bool false) (by simp [execOp, Rg.ev, go_sem, q47, q51]) ⟨rfl, hR, Ext.rfl' _⟩
          refine ⟨Rg.at_run [52] rfl ?_, ?_⟩
          · intro ρ W hR ⟨q52, _⟩
            replace q52 : ρ 52 = .bool false := q52
            refine ⟨rfl, ?_⟩
            exact Rg.run_ok (v := .bool false) (by simp [execOp, Rg.ev, go_sem, q52]) ⟨rfl, hR, Ext.rfl' _⟩
          refine ⟨Rg.at_run [8, 53] rfl ?_, ?_⟩
          · intro ρ W hR ⟨q8, q53, _⟩
            replace q8 : ρ 8 = .bool b := q8
            replace q53 : ρ 53 = .bool false := q53
            refine ⟨by simp [Rg.wants, q53], ?_⟩
            exact Rg.run_ok (v := .bool b) (by simp [execOp, Rg.ev, go_sem, q8]) ⟨rfl, hR, Ext.rfl' _⟩
          refine ⟨Rg.at_run [5, 53] rfl ?_, ?_⟩
          · intro ρ W hR ⟨q5, q53, _⟩
            replace q5 : ρ 5 = .slice (some ⟨g2 + 1 + 1 + 1, 0, none⟩) 9 9 := q5
            replace q53 : ρ 53 = .bool false := q53
            refine ⟨by simp [Rg.wants, q53], ?_⟩
            exact Rg.run_ok (v := .slice (some ⟨g2 + 1 + 1 + 1, 0, none⟩) 9 9) (by simp [execOp, Rg.ev, go_sem, q5]) ⟨rfl, hR, Ext.rfl' _⟩
          refine ⟨Rg.at_run [6, 53] rfl ?_, ?_⟩
          · intro ρ W hR ⟨q6, q53, _⟩
            replace q6 : ρ 6 = .int .i64 k := q6
            replace q53 : ρ 53 = .bool false := q53
            refine ⟨by simp [Rg.wants, q53], ?_⟩
            exact Rg.run_ok (v := .int .i64 k) (by simp [execOp, Rg.ev, go_sem, q6]) ⟨rfl, hR, Ext.rfl' _⟩
          refine ⟨Rg.at_run [55, 56, 53] rfl ?_, ?_⟩
          · intro ρ W hR ⟨q55, q56, q53, _⟩
            replace q55 : ρ 55 = .slice (some ⟨g2 + 1 + 1 + 1, 0, none⟩) 9 9 := q55
            replace q56 : ρ 56 = .int .i64 k := q56
            replace q53 : ρ 53 = .bool false := q53
            refine ⟨by simp [Rg.wants, q53], ?_⟩
            exact Rg.run_ok (v := .pointer (some ⟨g2 + 1 + 1 + 1, k, none⟩)) (by simp [execOp, Rg.ev, go_sem, q55, q56, hb1, hb2]) ⟨rfl, hR, Ext.rfl' _⟩
          refine ⟨Rg.at_run [57, 53] rfl ?_, ?_⟩
          · intro ρ W hR ⟨q57, q53, _⟩
            replace q57 : ρ 57 = .pointer (some ⟨g2 + 1 + 1 + 1, k, none⟩) := q57
            replace q53 : ρ 53 = .bool false := q53
            refine ⟨by simp [Rg.wants, q53], ?_⟩
            have c_ : W.cell? ⟨g2 + 1 + 1 + 1, k, none⟩ = some (.bool b) := by rw [hR.cell (by show g2 + 1 + 1 + 1 < W5.heap.size; exact (hB55).lt)]; exact e1
            exact Rg.run_ok (v := .bool b) (by simp [execOp, Rg.ev, go_sem, q57, c_]) ⟨rfl, hR, Ext.rfl' _⟩
          refine ⟨Rg.at_run [54, 58, 53] rfl ?_, ?_⟩
          · intro ρ W hR ⟨q54, q58, q53, _⟩
            replace q54 : ρ 54 = .bool b := q54
            replace q58 : ρ 58 = .bool b := q58
            replace q53 : ρ 53 = .bool false := q53
            refine ⟨by simp [Rg.wants, q53], ?_⟩
            exact Rg.run_ok (v := .bool false) (by simp [execOp, Rg.ev, go_sem, q54, q58]) ⟨rfl, hR, Ext.rfl' _⟩
          refine ⟨Rg.at_run [53, 59] rfl ?_, ?_⟩
          · intro ρ W hR ⟨q53, q59, _⟩
            replace q53 : ρ 53 = .bool false := q53
            replace q59 : ρ 59 = .bool false := q59
            refine ⟨rfl, ?_⟩
            exact Rg.run_ok (v := .bool false) (by simp [execOp, Rg.ev, go_sem, q53, q59]) ⟨rfl, hR, Ext.rfl' _⟩
          trivial
        case en =>
          intro tm W hR hsz hk
          rw [Rg.fin_eq (ds := [46, 47, 48, 49, 50, 51, 52, 53, 54, 55, 56, 57, 58, 59, 60]) rfl rfl rfl hsz hk]
          have k46 : tm.getD 46 undef = .pointer (some ⟨g7, 0, none⟩) := hk 46
          have k47 : tm.getD 47 undef = .int .i64 e := hk 47
          have k48 : tm.getD 48 undef = .slice (some ⟨g2 + 1 + 1, 0, none⟩) 9 9 := hk 48
          have k49 : tm.getD 49 undef = .int .i64 k := hk 49
          have k50 : tm.getD 50 undef = .pointer (some ⟨g2 + 1 + 1, k, none⟩) := hk 50
          have k51 : tm.getD 51 undef = .int .i64 e := hk 51
          have k52 : tm.getD 52 undef = .bool false := hk 52
          have k53 : tm.getD 53 undef = .bool false := hk 53
          have k54 : tm.getD 54 undef = .bool b := hk 54
          have k55 : tm.getD 55 undef = .slice (some ⟨g2 + 1 + 1 + 1, 0, none⟩) 9 9 := hk 55
          have k56 : tm.getD 56 undef = .int .i64 k := hk 56
          have k57 : tm.getD 57 undef = .pointer (some ⟨g2 + 1 + 1 + 1, k, none⟩) := hk 57
          have k58 : tm.getD 58 undef = .bool b := hk 58
          have k59 : tm.getD 59 undef = .bool false := hk 59
          have k60 : tm.getD 60 undef = .bool false := hk 60
          clear hk hsz
          simp only [Rg.putAll, List.setIfInBounds_toArray, List.set_cons_zero, List.set_cons_succ, k46, k47, k48, k49, k50, k51, k52, k53, k54, k55, k56, k57, k58, k59, k60]
          clear k46
          clear k47
          clear k48
          clear k49
          clear k50
          clear k51
          clear k52
          clear k53
          clear k54
          clear k55
          clear k56
          clear k57
          clear k58
          clear k59
          clear k60
          refine Rg.nil_list ?_
          go_wp2
          go_roundw
          case rel => exact ⟨k + 1, hlt, by first | rfl | go_num, hW'.trans' hR⟩
          case measure => simp [intOf]; omega
    · obtain rfl : k = 9 := by omega
      have hBe := hB23.ext hx
      have hCe := hC3.ext hx
      have hRe := stE.ext hR3 hx
      have hxe := hx4.trans' hx
      have b0 := (hBe.cell 0).trans rfl
      have b1 := (hBe.cell 1).trans rfl
      have b2 := (hBe.cell 2).trans rfl
      have b3 := (hBe.cell 3).trans rfl
      clear hB3 hB4 hB5 hB23 hC3 hR3 HA
      go_wp2_with fail
      refine (H2.out _ _ hRe).mono ?_
      rintro e W5 ⟨cs3, rfl, hrep3, hx5⟩
      rw [show keep StY (cmQ 0 2 13).client (cmQ 0 2 13).seq ⟨0, []⟩ = StZ from keepZ] at hrep3
      obtain ⟨Am, cm, At, ct, rfl, hs3⟩ : ∃ Am cm At ct, cs3 = [.int .u64 0, .int .u64 0, .slice Am 0 cm, .slice At 1 ct] ∧ Enc.Sl seE W5 noneAt (.slice At 1 ct) StZ.sess := by
        obtain ⟨Am, cm, At, ct, h1, -, -, hl3, hs3⟩ := st_open hrep3
        exact ⟨Am, cm, At, ct, h1, hs3⟩
      obtain ⟨ad, s, v, rfl, hs0, hbk, p0, p1, p2, -, -, p3⟩ := se_at hs3 (k := 0) (by decide)
      obtain rfl : s = ⟨2, 13, [⟨13, ⟨0, []⟩⟩]⟩ := (Option.some.inj hs0.out).symm
      obtain ⟨Av, cv', rfl, -, -⟩ := p3.form
      obtain ⟨g5, hg5⟩ : ∃ g, W5.heap.size = g := ⟨_, rfl⟩
      have hBz := Blk.new W5 26 #[.int .u64 0, .int .u64 0, .slice Am 0 cm, .slice (some ad) 1 ct]
      rw [hg5] at hBz
      have hxz : Ext W5 (W5.alloc (.cells #[.int .u64 0, .int .u64 0, .slice Am 0 cm, .slice (some ad) 1 ct] 26)) := (Ext.rfl' _).alloc' _
      have hCz := (hCe.ext hx5).ext hxz
      have hRz := stE.ext hrep3 hxz
      have c0 := (hCz.cell 0).trans rfl
      have c1 := (hCz.cell 1).trans rfl
      have c2 := (hCz.cell 2).trans rfl
      have c3 := (hCz.cell 3).trans rfl
      have c4 := (hCz.cell 4).trans rfl
      have c5 := (hCz.cell 5).trans rfl
      clear b0 b1 b2 b3 hBe hCe hRe
      go_wp2_with fail
      refine (H3.out _ _ hRz).mono ?_
      rintro e W6 ⟨rfl, hx6⟩
      rw [show ask StZ (cmQ 1 2 9).client (cmQ 1 2 9).seq = (⟨14, []⟩, true) from askZ]
      have hxt : Ext W6 (W6.alloc (.cells (acells ⟨14, []⟩).toArray 31)) := (Ext.rfl' _).alloc' _
      have hBt := (hBz.ext hx6).ext hxt
      have hx56 := (hxz.trans' hx6).trans' hxt
      have z0 := (hBt.cell 3).trans rfl
      have z1 := (hx56.cell (p := ad.add (0 * 3)) hbk).trans p0
      have z2 : (W6.alloc (.cells (acells ⟨14, []⟩).toArray 31)).cell? ⟨ad.block, ad.off + 1, none⟩ = some (.int .u64 13) := (hx56.cell (p := ⟨(ad.add (0 * 3)).block, (ad.add (0 * 3)).off + 1, none⟩) hbk).trans p1
      have z3 : (W6.alloc (.cells (acells ⟨14, []⟩).toArray 31)).cell? ⟨ad.block, ad.off + 2, none⟩ = some (.slice Av 1 cv') := (hx56.cell (p := ⟨(ad.add (0 * 3)).block, (ad.add (0 * 3)).off + 2, none⟩) hbk).trans p2
      go_wp2
      go_ret
      exact ⟨rfl, ((hxe.trans' hx5).trans' hxz).trans' (hx6.trans' hxt)⟩
end Go.Proofs.Ythlbnajecfjmdaa
