/- SessAll. -/
import Derived.Test.YthlbnajecfjmdaaKeepRef
import Derived.Test.YthlbnajecfjmdaaSame
import Derived.Test.YthlbnajecfjmdaaSess8
namespace Go.Proofs.Ythlbnajecfjmdaa
set_option linter.unusedVariables false
set_option linter.unusedSimpArgs false
set_option linter.unnecessarySimpa false
set_option maxRecDepth 100000
open Go.RowKit
set_option maxHeartbeats 6400000 in
theorem sessAll_walk (ss : Array Value) (s : St) (cc : Array Value) (c : Cm) (aa : Array Value) (a : An) (w : World) (hs : stE.rep w noneAt ss.toList s) (hc : cmE.rep w noneAt cc.toList c) (ha : anE.rep w noneAt aa.toList a) :
    Calls Try.prog 3 #[.agg ss, .agg cc, .agg aa] w fun e w' => e = .returned (.bool true) ∧ Ext w w' := by
  obtain ⟨rfl, wc⟩ := cmE_rep hc
  obtain ⟨Al, cl, As, cs', hss, -, -, -, -⟩ := st_open hs
  obtain ⟨haa, ha1, ha2⟩ := an_rep.1 ha
  obtain ⟨ss⟩ := ss
  obtain ⟨aa⟩ := aa
  simp only at hss haa hs
  subst hss haa
  clear hc ha
  obtain ⟨hB, hC, hA, hx0⟩ := new3 w 26 28 31 #[.int .u64 s.now, .int .u64 s.count, .slice Al s.links.length cl, .slice As s.sess.length cs'] (ccells c) (acells a).toArray
  go_enter Try.func3, Try.ntmps3
  go_wp2_with fail
  refine (begun19_b _).mono ?_
  rintro e W1 ⟨rfl, hx1⟩
  obtain ⟨g, hg⟩ : ∃ g, w.heap.size = g := ⟨_, rfl⟩
  rw [hg] at hB hC hA
  replace hB := hB.ext hx1
  replace hC := hC.ext hx1
  replace hA := hA.ext hx1
  replace hx0 := hx0.trans' hx1
  clear hx1
  have b0 := (hB.cell 0).trans rfl
  have b1 := (hB.cell 1).trans rfl
  have b2 := (hB.cell 2).trans rfl
  have b3 := (hB.cell 3).trans rfl
  have HS := hide (fun W (h : Ext w W) => stE.ext hs h)
  have HL := hide (fun W cs h => light_b s cs W h)
  clear hs
  go_wp2_with fail
  refine (HL.out _ _ (HS.out _ hx0)).mono ?_
  rintro e W2 ⟨b, rfl, hx2, hb⟩
  clear b0 b1 b2 b3
  replace hB := hB.ext hx2
  replace hC := hC.ext hx2
  replace hA := hA.ext hx2
  replace hx0 := hx0.trans' hx2
  clear hx2 HL
  have a1 := (hA.cell 1).trans rfl
  cases b with
  | false =>
    go_wp2
    go_ret
    exact ⟨rfl, hx0⟩
  | true =>
    have LT := hb rfl
    clear hb
    have RS := hide LT.2.2.1.rises
    by_cases h100 : 100 < a.text.length
    · go_wp2
      go_ret
      exact ⟨rfl, hx0⟩
    · have HASK := hide (fun W cs h => sask_b s cs c W h wc RS.out (by have := LT.2.1; omega))
      have HRASK := hide (fun W cs h => rask_b s cs c W h wc RS.out (by have := LT.2.1; omega))
      have HKEEP := hide (fun W cs h => skeep_b s cs c a W h wc ⟨ha1, ha2⟩ RS.out (by have := LT.2.1; omega) (by have := LT.1; omega) LT.dones)
      have HRKEEP := hide (fun W cs h => rkeep_b s cs c a W h wc ⟨ha1, ha2⟩ (by have := LT.2.1; omega) LT.dones)
      have b0 := (hB.cell 0).trans rfl
      have b1 := (hB.cell 1).trans rfl
      have b2 := (hB.cell 2).trans rfl
      have b3 := (hB.cell 3).trans rfl
      have c0 := (hC.cell 0).trans rfl
      have c1 := (hC.cell 1).trans rfl
      have c2 := (hC.cell 2).trans rfl
      have c3 := (hC.cell 3).trans rfl
      have c4 := (hC.cell 4).trans rfl
      have c5 := (hC.cell 5).trans rfl
      clear LT
      go_wp2_with fail
      refine (HASK.out _ _ (HS.out _ hx0)).mono ?_
      rintro e W3 ⟨rfl, hx3⟩
      clear b0 b1 b2 b3 a1 c0 c1 c2 c3 c4 c5
      obtain ⟨x0, k0, hask⟩ : ∃ x0 k0, ask s c.client c.seq = (x0, k0) := ⟨_, _, rfl⟩
      rw [hask]
      obtain ⟨g7, hg7⟩ : ∃ g, W3.heap.size = g := ⟨_, rfl⟩
      have hX := Blk.new W3 31 (acells x0).toArray
      rw [hg7] at hX
      have hx4 := hx3.alloc' (.cells (acells x0).toArray 31)
      replace hB := hB.ext hx4
      replace hC := hC.ext hx4
      replace hA := hA.ext hx4
      replace hx0 := hx0.trans' hx4
      clear hx4 hx3
      have b0 := (hB.cell 0).trans rfl
      have b1 := (hB.cell 1).trans rfl
      have b2 := (hB.cell 2).trans rfl
      have b3 := (hB.cell 3).trans rfl
      have c0 := (hC.cell 0).trans rfl
      have c1 := (hC.cell 1).trans rfl
      have c2 := (hC.cell 2).trans rfl
      have c3 := (hC.cell 3).trans rfl
      have c4 := (hC.cell 4).trans rfl
      have c5 := (hC.cell 5).trans rfl
      have HA2 := hide hask
      clear hask
      go_wp2_with fail
      refine (HRASK.out _ _ (HS.out _ hx0)).mono ?_
      rintro e W5 ⟨rfl, hx5⟩
      rw [HA2.out]
      clear b0 b1 b2 b3 c0 c1 c2 c3 c4 c5
      obtain ⟨g9, hg9⟩ : ∃ g, W5.heap.size = g := ⟨_, rfl⟩
      have hY := Blk.new W5 31 (acells x0).toArray
      rw [hg9] at hY
      have hx6 := hx5.alloc' (.cells (acells x0).toArray 31)
      replace hB := hB.ext hx6
      replace hC := hC.ext hx6
      replace hA := hA.ext hx6
      replace hX := hX.ext hx6
      replace hx0 := hx0.trans' hx6
      clear hx6 hx5
      have x00 := (hX.cell 0).trans rfl
      have x01 := (hX.cell 1).trans rfl
      have y00 := (hY.cell 0).trans rfl
      have y01 := (hY.cell 1).trans rfl
      change Blk _ (g + 1 + 1) _ _ at hA
      go_upto_region 9 with fail
      generalize (W5.alloc (.cells (acells x0).toArray 31)) = W6 at *
      cases k0 with
      | true =>
        refine Rg.regionT Try.checked.mixed 54 13 (by kernel_rfl) [
          (fun x_ _ => x_ = .bool true),
          (fun x_ _ => x_ = .bool true),
          (fun x_ _ => x_ = undef),
          (fun x_ _ => x_ = undef),
          (fun x_ _ => x_ = undef),
          (fun x_ _ => x_ = undef),
          (fun x_ _ => x_ = undef),
          (fun x_ _ => x_ = undef),
          (fun x_ _ => x_ = undef),
          (fun x_ _ => x_ = undef),
          (fun x_ _ => x_ = undef),
          (fun x_ _ => x_ = .bool true),
          (fun x_ _ => x_ = .bool true)] (fun W => Ext W6 W) Ext rfl rfl rfl
          ?st ((Ext.rfl' W6).drew') ?ob ?en
        case st => exact ⟨fun _ _ _ h _ => h, fun _ _ _ h _ => h, fun _ _ _ h _ => h, fun _ _ _ h _ => h, fun _ _ _ h _ => h, fun _ _ _ h _ => h, fun _ _ _ h _ => h, fun _ _ _ h _ => h, fun _ _ _ h _ => h, fun _ _ _ h _ => h, fun _ _ _ h _ => h, fun _ _ _ h _ => h, fun _ _ _ h _ => h, trivial⟩
        case ob =>
          refine ⟨Rg.at_run [10] rfl ?_, ?_⟩
          · intro ρ W hR ⟨q10, _⟩
            replace q10 : ρ 10 = .bool true := q10
            refine ⟨rfl, ?_⟩
            exact Rg.run_ok (v := .bool true) (by simp [execOp, Rg.ev, go_sem, q10]) ⟨rfl, hR, Ext.rfl' _⟩
          refine ⟨Rg.at_run [42] rfl ?_, ?_⟩
          · intro ρ W hR ⟨q42, _⟩
            replace q42 : ρ 42 = .bool true := q42
            refine ⟨rfl, ?_⟩
            exact Rg.run_ok (v := .bool true) (by simp [execOp, Rg.ev, go_sem, q42]) ⟨rfl, hR, Ext.rfl' _⟩
          refine ⟨Rg.at_skip [3, 43] rfl (by intro ρ W hR ⟨q3, q43, _⟩; replace q3 : ρ 3 = .pointer (some ⟨g, 0, none⟩) := q3; replace q43 : ρ 43 = .bool true := q43; exact ⟨by simp [Rg.wants, q43], rfl, Ext.rfl' _⟩), ?_⟩
          refine ⟨Rg.at_skip [4, 43] rfl (by intro ρ W hR ⟨q4, q43, _⟩; replace q4 : ρ 4 = .pointer (some ⟨g + 1, 0, none⟩) := q4; replace q43 : ρ 43 = .bool true := q43; exact ⟨by simp [Rg.wants, q43], rfl, Ext.rfl' _⟩), ?_⟩
          refine ⟨Rg.at_skip [5, 43] rfl (by intro ρ W hR ⟨q5, q43, _⟩; replace q5 : ρ 5 = .pointer (some ⟨g + 1 + 1, 0, none⟩) := q5; replace q43 : ρ 43 = .bool true := q43; exact ⟨by simp [Rg.wants, q43], rfl, Ext.rfl' _⟩), ?_⟩
          refine ⟨Rg.at_skip [44, 45, 46, 43] rfl (by intro ρ W hR ⟨q44, q45, q46, q43, _⟩; replace q44 : ρ 44 = undef := q44; replace q45 : ρ 45 = undef := q45; replace q46 : ρ 46 = undef := q46; replace q43 : ρ 43 = .bool true := q43; exact ⟨by simp [Rg.wants, q43], rfl, Ext.rfl' _⟩), ?_⟩
          refine ⟨Rg.at_skip [3, 43] rfl (by intro ρ W hR ⟨q3, q43, _⟩; replace q3 : ρ 3 = .pointer (some ⟨g, 0, none⟩) := q3; replace q43 : ρ 43 = .bool true := q43; exact ⟨by simp [Rg.wants, q43], rfl, Ext.rfl' _⟩), ?_⟩
          refine ⟨Rg.at_skip [4, 43] rfl (by intro ρ W hR ⟨q4, q43, _⟩; replace q4 : ρ 4 = .pointer (some ⟨g + 1, 0, none⟩) := q4; replace q43 : ρ 43 = .bool true := q43; exact ⟨by simp [Rg.wants, q43], rfl, Ext.rfl' _⟩), ?_⟩
          refine ⟨Rg.at_skip [5, 43] rfl (by intro ρ W hR ⟨q5, q43, _⟩; replace q5 : ρ 5 = .pointer (some ⟨g + 1 + 1, 0, none⟩) := q5; replace q43 : ρ 43 = .bool true := q43; exact ⟨by simp [Rg.wants, q43], rfl, Ext.rfl' _⟩), ?_⟩
          refine ⟨Rg.at_skip [48, 49, 50, 43] rfl (by intro ρ W hR ⟨q48, q49, q50, q43, _⟩; replace q48 : ρ 48 = undef := q48; replace q49 : ρ 49 = undef := q49; replace q50 : ρ 50 = undef := q50; replace q43 : ρ 43 = .bool true := q43; exact ⟨by simp [Rg.wants, q43], rfl, Ext.rfl' _⟩), ?_⟩
          refine ⟨Rg.at_skip [47, 51, 43] rfl (by intro ρ W hR ⟨q47, q51, q43, _⟩; replace q47 : ρ 47 = undef := q47; replace q51 : ρ 51 = undef := q51; replace q43 : ρ 43 = .bool true := q43; exact ⟨by simp [Rg.wants, q43], rfl, Ext.rfl' _⟩), ?_⟩
          refine ⟨Rg.at_run [43, 52] rfl ?_, ?_⟩
          · intro ρ W hR ⟨q43, q52, _⟩
            replace q43 : ρ 43 = .bool true := q43
            replace q52 : ρ 52 = undef := q52
            refine ⟨rfl, ?_⟩
            exact Rg.run_ok (v := .bool true) (by simp [execOp, Rg.ev, go_sem, q43, q52]) ⟨rfl, hR, Ext.rfl' _⟩
          refine ⟨Rg.at_run [53] rfl ?_, ?_⟩
          · intro ρ W hR ⟨q53, _⟩
            replace q53 : ρ 53 = .bool true := q53
            refine ⟨rfl, ?_⟩
            exact Rg.run_ok (v := .bool true) (by simp [execOp, Rg.ev, go_sem, q53]) ⟨rfl, hR, Ext.rfl' _⟩
          trivial
        case en =>
          intro tm W hR hsz hk
          rw [Rg.fin_eq (ds := [42, 43, 44, 45, 46, 47, 48, 49, 50, 51, 52, 53, 6]) rfl rfl rfl hsz hk]
          have k6 : tm.getD 6 undef = .bool true := hk 6
          have k42 : tm.getD 42 undef = .bool true := hk 42
          have k43 : tm.getD 43 undef = .bool true := hk 43
          have k44 : tm.getD 44 undef = undef := hk 44
          have k45 : tm.getD 45 undef = undef := hk 45
          have k46 : tm.getD 46 undef = undef := hk 46
          have k47 : tm.getD 47 undef = undef := hk 47
          have k48 : tm.getD 48 undef = undef := hk 48
          have k49 : tm.getD 49 undef = undef := hk 49
          have k50 : tm.getD 50 undef = undef := hk 50
          have k51 : tm.getD 51 undef = undef := hk 51
          have k52 : tm.getD 52 undef = undef := hk 52
          have k53 : tm.getD 53 undef = .bool true := hk 53
          clear hk hsz
          simp only [Rg.putAll, List.setIfInBounds_toArray, List.set_cons_zero, List.set_cons_succ, k6, k42, k43, k44, k45, k46, k47, k48, k49, k50, k51, k52, k53]
          clear k6
          clear k42
          clear k43
          clear k44
          clear k45
          clear k46
          clear k47
          clear k48
          clear k49
          clear k50
          clear k51
          clear k52
          clear k53
          refine Rg.nil_list ?_
          go_wp2
          go_ret
          exact ⟨rfl, hx0.trans' hR⟩
      | false =>
        refine Rg.regionT Try.checked.mixed 54 13 (by kernel_rfl) [
          (fun x_ _ => x_ = .bool false),
          (fun x_ _ => x_ = .bool false),
          (fun x_ _ => x_ = .agg #[.int .u64 s.now, .int .u64 s.count, .slice Al s.links.length cl, .slice As s.sess.length cs']),
          (fun x_ _ => x_ = .agg #[.int .i64 c.kind, .int .i64 c.client, .int .u64 c.seq, str c.name, str c.url, .int .u64 c.till]),
          (fun x_ _ => x_ = .agg #[.int .i64 a.err, str a.text]),
          (fun v W => ∃ cs : List Value, v = .agg cs.toArray ∧ stE.rep W noneAt cs (keep s c.client c.seq a)),
          (fun x_ _ => x_ = .agg #[.int .u64 s.now, .int .u64 s.count, .slice Al s.links.length cl, .slice As s.sess.length cs']),
          (fun x_ _ => x_ = .agg #[.int .i64 c.kind, .int .i64 c.client, .int .u64 c.seq, str c.name, str c.url, .int .u64 c.till]),
          (fun x_ _ => x_ = .agg #[.int .i64 a.err, str a.text]),
          (fun v W => ∃ cs : List Value, v = .agg cs.toArray ∧ stE.rep W noneAt cs (keep s c.client c.seq a)),
          (fun x_ _ => x_ = .bool true),
          (fun x_ _ => x_ = .bool true),
          (fun x_ _ => x_ = .bool true)] (fun W => Ext W6 W) Ext rfl rfl rfl
          ?st ((Ext.rfl' W6).drew') ?ob ?en
        case st => exact ⟨fun _ _ _ h _ => h, fun _ _ _ h _ => h, fun _ _ _ h _ => h, fun _ _ _ h _ => h, fun _ _ _ h _ => h, fun _ _ _ h hx => ⟨h.choose, h.choose_spec.1, stE.ext h.choose_spec.2 hx⟩, fun _ _ _ h _ => h, fun _ _ _ h _ => h, fun _ _ _ h _ => h, fun _ _ _ h hx => ⟨h.choose, h.choose_spec.1, stE.ext h.choose_spec.2 hx⟩, fun _ _ _ h _ => h, fun _ _ _ h _ => h, fun _ _ _ h _ => h, trivial⟩
        case ob =>
          refine ⟨Rg.at_run [10] rfl ?_, ?_⟩
          · intro ρ W hR ⟨q10, _⟩
            replace q10 : ρ 10 = .bool false := q10
            refine ⟨rfl, ?_⟩
            exact Rg.run_ok (v := .bool false) (by simp [execOp, Rg.ev, go_sem, q10]) ⟨rfl, hR, Ext.rfl' _⟩
          refine ⟨Rg.at_run [42] rfl ?_, ?_⟩
          · intro ρ W hR ⟨q42, _⟩
            replace q42 : ρ 42 = .bool false := q42
            refine ⟨rfl, ?_⟩
            exact Rg.run_ok (v := .bool false) (by simp [execOp, Rg.ev, go_sem, q42]) ⟨rfl, hR, Ext.rfl' _⟩
          refine ⟨Rg.at_run [3, 43] rfl ?_, ?_⟩
          · intro ρ W hR ⟨q3, q43, _⟩
            replace q3 : ρ 3 = .pointer (some ⟨g, 0, none⟩) := q3
            replace q43 : ρ 43 = .bool false := q43
            refine ⟨by simp [Rg.wants, q43], ?_⟩
            have c0_ : W.cell? ⟨g, 0, none⟩ = some (.int .u64 s.now) := ((hB.ext hR).cell 0).trans rfl
            have c1_ : W.cell? ⟨g, 1, none⟩ = some (.int .u64 s.count) := ((hB.ext hR).cell 1).trans rfl
            have c2_ : W.cell? ⟨g, 2, none⟩ = some (.slice Al s.links.length cl) := ((hB.ext hR).cell 2).trans rfl
            have c3_ : W.cell? ⟨g, 3, none⟩ = some (.slice As s.sess.length cs') := ((hB.ext hR).cell 3).trans rfl
            exact Rg.run_ok (v := .agg #[.int .u64 s.now, .int .u64 s.count, .slice Al s.links.length cl, .slice As s.sess.length cs']) (by simp [execOp, Rg.ev, go_sem, q3, c0_, c1_, c2_, c3_]) ⟨rfl, hR, Ext.rfl' _⟩
          refine ⟨Rg.at_run [4, 43] rfl ?_, ?_⟩
          · intro ρ W hR ⟨q4, q43, _⟩
            replace q4 : ρ 4 = .pointer (some ⟨g + 1, 0, none⟩) := q4
            replace q43 : ρ 43 = .bool false := q43
            refine ⟨by simp [Rg.wants, q43], ?_⟩
            have c0_ : W.cell? ⟨g + 1, 0, none⟩ = some (.int .i64 c.kind) := ((hC.ext hR).cell 0).trans rfl
            have c1_ : W.cell? ⟨g + 1, 1, none⟩ = some (.int .i64 c.client) := ((hC.ext hR).cell 1).trans rfl
            have c2_ : W.cell? ⟨g + 1, 2, none⟩ = some (.int .u64 c.seq) := ((hC.ext hR).cell 2).trans rfl
            have c3_ : W.cell? ⟨g + 1, 3, none⟩ = some (str c.name) := ((hC.ext hR).cell 3).trans rfl
            have c4_ : W.cell? ⟨g + 1, 4, none⟩ = some (str c.url) := ((hC.ext hR).cell 4).trans rfl
            have c5_ : W.cell? ⟨g + 1, 5, none⟩ = some (.int .u64 c.till) := ((hC.ext hR).cell 5).trans rfl
            exact Rg.run_ok (v := .agg #[.int .i64 c.kind, .int .i64 c.client, .int .u64 c.seq, str c.name, str c.url, .int .u64 c.till]) (by simp [execOp, Rg.ev, go_sem, q4, c0_, c1_, c2_, c3_, c4_, c5_]) ⟨rfl, hR, Ext.rfl' _⟩
          refine ⟨Rg.at_run [5, 43] rfl ?_, ?_⟩
          · intro ρ W hR ⟨q5, q43, _⟩
            replace q5 : ρ 5 = .pointer (some ⟨g + 1 + 1, 0, none⟩) := q5
            replace q43 : ρ 43 = .bool false := q43
            refine ⟨by simp [Rg.wants, q43], ?_⟩
            have c0_ : W.cell? ⟨g + 1 + 1, 0, none⟩ = some (.int .i64 a.err) := ((hA.ext hR).cell 0).trans rfl
            have c1_ : W.cell? ⟨g + 1 + 1, 1, none⟩ = some (str a.text) := ((hA.ext hR).cell 1).trans rfl
            exact Rg.run_ok (v := .agg #[.int .i64 a.err, str a.text]) (by simp [execOp, Rg.ev, go_sem, q5, c0_, c1_]) ⟨rfl, hR, Ext.rfl' _⟩
          refine ⟨Rg.at_run [44, 45, 46, 43] rfl ?_, ?_⟩
          · intro ρ W hR ⟨q44, q45, q46, q43, _⟩
            replace q44 : ρ 44 = .agg #[.int .u64 s.now, .int .u64 s.count, .slice Al s.links.length cl, .slice As s.sess.length cs'] := q44
            replace q45 : ρ 45 = .agg #[.int .i64 c.kind, .int .i64 c.client, .int .u64 c.seq, str c.name, str c.url, .int .u64 c.till] := q45
            replace q46 : ρ 46 = .agg #[.int .i64 a.err, str a.text] := q46
            replace q43 : ρ 43 = .bool false := q43
            refine ⟨by simp [Rg.wants, q43], ?_⟩
            refine Rg.run_enter (by simp [execOp, Rg.ev, go_sem, q44, q45, q46]; exact ⟨⟨rfl, rfl⟩, rfl⟩) ?_
            refine (HKEEP.out W _ (HS.out W (hx0.trans' hR))).mono ?_
            rintro e_ w2 ⟨cs3, rfl, hrep, hxx⟩
            exact ⟨_, rfl, ⟨cs3, rfl, hrep⟩, hR.trans' hxx, hxx⟩
          refine ⟨Rg.at_run [3, 43] rfl ?_, ?_⟩
          · intro ρ W hR ⟨q3, q43, _⟩
            replace q3 : ρ 3 = .pointer (some ⟨g, 0, none⟩) := q3
            replace q43 : ρ 43 = .bool false := q43
            refine ⟨by simp [Rg.wants, q43], ?_⟩
            have c0_ : W.cell? ⟨g, 0, none⟩ = some (.int .u64 s.now) := ((hB.ext hR).cell 0).trans rfl
            have c1_ : W.cell? ⟨g, 1, none⟩ = some (.int .u64 s.count) := ((hB.ext hR).cell 1).trans rfl
            have c2_ : W.cell? ⟨g, 2, none⟩ = some (.slice Al s.links.length cl) := ((hB.ext hR).cell 2).trans rfl
            have c3_ : W.cell? ⟨g, 3, none⟩ = some (.slice As s.sess.length cs') := ((hB.ext hR).cell 3).trans rfl
            exact Rg.run_ok (v := .agg #[.int .u64 s.now, .int .u64 s.count, .slice Al s.links.length cl, .slice As s.sess.length cs']) (by simp [execOp, Rg.ev, go_sem, q3, c0_, c1_, c2_, c3_]) ⟨rfl, hR, Ext.rfl' _⟩
          refine ⟨Rg.at_run [4, 43] rfl ?_, ?_⟩
          · intro ρ W hR ⟨q4, q43, _⟩
            replace q4 : ρ 4 = .pointer (some ⟨g + 1, 0, none⟩) := q4
            replace q43 : ρ 43 = .bool false := q43
            refine ⟨by simp [Rg.wants, q43], ?_⟩
            have c0_ : W.cell? ⟨g + 1, 0, none⟩ = some (.int .i64 c.kind) := ((hC.ext hR).cell 0).trans rfl
            have c1_ : W.cell? ⟨g + 1, 1, none⟩ = some (.int .i64 c.client) := ((hC.ext hR).cell 1).trans rfl
            have c2_ : W.cell? ⟨g + 1, 2, none⟩ = some (.int .u64 c.seq) := ((hC.ext hR).cell 2).trans rfl
            have c3_ : W.cell? ⟨g + 1, 3, none⟩ = some (str c.name) := ((hC.ext hR).cell 3).trans rfl
            have c4_ : W.cell? ⟨g + 1, 4, none⟩ = some (str c.url) := ((hC.ext hR).cell 4).trans rfl
            have c5_ : W.cell? ⟨g + 1, 5, none⟩ = some (.int .u64 c.till) := ((hC.ext hR).cell 5).trans rfl
            exact Rg.run_ok (v := .agg #[.int .i64 c.kind, .int .i64 c.client, .int .u64 c.seq, str c.name, str c.url, .int .u64 c.till]) (by simp [execOp, Rg.ev, go_sem, q4, c0_, c1_, c2_, c3_, c4_, c5_]) ⟨rfl, hR, Ext.rfl' _⟩
          refine ⟨Rg.at_run [5, 43] rfl ?_, ?_⟩
          · intro ρ W hR ⟨q5, q43, _⟩
            replace q5 : ρ 5 = .pointer (some ⟨g + 1 + 1, 0, none⟩) := q5
            replace q43 : ρ 43 = .bool false := q43
            refine ⟨by simp [Rg.wants, q43], ?_⟩
            have c0_ : W.cell? ⟨g + 1 + 1, 0, none⟩ = some (.int .i64 a.err) := ((hA.ext hR).cell 0).trans rfl
            have c1_ : W.cell? ⟨g + 1 + 1, 1, none⟩ = some (str a.text) := ((hA.ext hR).cell 1).trans rfl
            exact Rg.run_ok (v := .agg #[.int .i64 a.err, str a.text]) (by simp [execOp, Rg.ev, go_sem, q5, c0_, c1_]) ⟨rfl, hR, Ext.rfl' _⟩
          refine ⟨Rg.at_run [48, 49, 50, 43] rfl ?_, ?_⟩
          · intro ρ W hR ⟨q48, q49, q50, q43, _⟩
            replace q48 : ρ 48 = .agg #[.int .u64 s.now, .int .u64 s.count, .slice Al s.links.length cl, .slice As s.sess.length cs'] := q48
            replace q49 : ρ 49 = .agg #[.int .i64 c.kind, .int .i64 c.client, .int .u64 c.seq, str c.name, str c.url, .int .u64 c.till] := q49
            replace q50 : ρ 50 = .agg #[.int .i64 a.err, str a.text] := q50
            replace q43 : ρ 43 = .bool false := q43
            refine ⟨by simp [Rg.wants, q43], ?_⟩
            refine Rg.run_enter (by simp [execOp, Rg.ev, go_sem, q48, q49, q50]; exact ⟨⟨rfl, rfl⟩, rfl⟩) ?_
            refine (HRKEEP.out W _ (HS.out W (hx0.trans' hR))).mono ?_
            rintro e_ w2 ⟨cs3, rfl, hrep, hxx⟩
            exact ⟨_, rfl, ⟨cs3, rfl, hrep⟩, hR.trans' hxx, hxx⟩
          refine ⟨Rg.at_run [47, 51, 43] rfl ?_, ?_⟩
          · intro ρ W hR ⟨q47, q51, q43, _⟩
            replace q47 : (fun v W => ∃ cs : List Value, v = .agg cs.toArray ∧ stE.rep W noneAt cs (keep s c.client c.seq a)) (ρ 47) W := q47
            replace q51 : (fun v W => ∃ cs : List Value, v = .agg cs.toArray ∧ stE.rep W noneAt cs (keep s c.client c.seq a)) (ρ 51) W := q51
            replace q43 : ρ 43 = .bool false := q43
            refine ⟨by simp [Rg.wants, q43], ?_⟩
            obtain ⟨ca, e47, ra⟩ := q47
            obtain ⟨cb, e51, rb⟩ := q51
            refine Rg.run_enter (by simp [execOp, Rg.ev, go_sem, e47, e51]; exact ⟨⟨rfl, rfl⟩, rfl⟩) ?_
            refine (same_eq _ ca cb W ra rb).mono ?_
            rintro e_ w2 ⟨rfl, hxx⟩
            exact ⟨_, rfl, rfl, hR.trans' hxx, hxx⟩
          refine ⟨Rg.at_run [43, 52] rfl ?_, ?_⟩
          · intro ρ W hR ⟨q43, q52, _⟩
            replace q43 : ρ 43 = .bool false := q43
            replace q52 : ρ 52 = .bool true := q52
            refine ⟨rfl, ?_⟩
            exact Rg.run_ok (v := .bool true) (by simp [execOp, Rg.ev, go_sem, q43, q52]) ⟨rfl, hR, Ext.rfl' _⟩
          refine ⟨Rg.at_run [53] rfl ?_, ?_⟩
          · intro ρ W hR ⟨q53, _⟩
            replace q53 : ρ 53 = .bool true := q53
            refine ⟨rfl, ?_⟩
            exact Rg.run_ok (v := .bool true) (by simp [execOp, Rg.ev, go_sem, q53]) ⟨rfl, hR, Ext.rfl' _⟩
          trivial
        case en =>
          intro tm W hR hsz hk
          rw [Rg.fin_eq (ds := [42, 43, 44, 45, 46, 47, 48, 49, 50, 51, 52, 53, 6]) rfl rfl rfl hsz hk]
          have k6 : tm.getD 6 undef = .bool true := hk 6
          have k42 : tm.getD 42 undef = .bool false := hk 42
          have k43 : tm.getD 43 undef = .bool false := hk 43
          have k44 : tm.getD 44 undef = .agg #[.int .u64 s.now, .int .u64 s.count, .slice Al s.links.length cl, .slice As s.sess.length cs'] := hk 44
          have k45 : tm.getD 45 undef = .agg #[.int .i64 c.kind, .int .i64 c.client, .int .u64 c.seq, str c.name, str c.url, .int .u64 c.till] := hk 45
          have k46 : tm.getD 46 undef = .agg #[.int .i64 a.err, str a.text] := hk 46
          have k47 : (fun v W => ∃ cs : List Value, v = .agg cs.toArray ∧ stE.rep W noneAt cs (keep s c.client c.seq a)) (tm.getD 47 undef) W := hk 47
          have k48 : tm.getD 48 undef = .agg #[.int .u64 s.now, .int .u64 s.count, .slice Al s.links.length cl, .slice As s.sess.length cs'] := hk 48
          have k49 : tm.getD 49 undef = .agg #[.int .i64 c.kind, .int .i64 c.client, .int .u64 c.seq, str c.name, str c.url, .int .u64 c.till] := hk 49
          have k50 : tm.getD 50 undef = .agg #[.int .i64 a.err, str a.text] := hk 50
          have k51 : (fun v W => ∃ cs : List Value, v = .agg cs.toArray ∧ stE.rep W noneAt cs (keep s c.client c.seq a)) (tm.getD 51 undef) W := hk 51
          have k52 : tm.getD 52 undef = .bool true := hk 52
          have k53 : tm.getD 53 undef = .bool true := hk 53
          clear hk hsz
          simp only [Rg.putAll, List.setIfInBounds_toArray, List.set_cons_zero, List.set_cons_succ, k6, k42, k43, k44, k45, k46, k48, k49, k50, k52, k53]
          clear k6
          clear k42
          clear k43
          clear k44
          clear k45
          clear k46
          generalize tm.getD 47 undef = u47 at *
          clear k48
          clear k49
          clear k50
          generalize tm.getD 51 undef = u51 at *
          clear k52
          clear k53
          refine Rg.nil_list ?_
          go_wp2
          go_ret
          exact ⟨rfl, hx0.trans' hR⟩
end Go.Proofs.Ythlbnajecfjmdaa
