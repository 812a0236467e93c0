/- SessRuns. -/
import Derived.Test.YthlbnajecfjmdaaRuns2
namespace Go.Proofs.Ythlbnajecfjmdaa
set_option linter.unusedVariables false
set_option linter.unusedSimpArgs false
set_option linter.unnecessarySimpa false
set_option maxRecDepth 100000
open Go.RowKit
abbrev RX (g : Nat) : Avoid := fun k => k = g ∨ k = g + 1 ∨ k = g + 1 + 1
/-- what the loop keeps -/
structure RunAt (w W : World) (g n : Nat) (s : St) (hi : Int → Int) (dn : Int → Int → Bool) (cs : List Value) (dc : Array Value) : Prop where
  bs : Blk W g 26 cs.toArray
  rep : stE.rep W (RX g) cs s
  bh : Blk W (g + 1) 40 (hcells hi)
  bd : Blk W (g + 1 + 1) 42 dc
  dna : DnAt dc dn
  inv : InvR s hi dn
  his : ∀ x, 0 ≤ hi x ∧ hi x ≤ 60
  links : s.links = []
  len : s.sess.length ≤ n
  ge : w.heap.size ≤ g
  ext : Ext w W
theorem RunAt.to {w W W2 : World} {g n : Nat} {s : St} {hi : Int → Int} {dn : Int → Int → Bool} {cs : List Value} {dc : Array Value} (h : RunAt w W g n s hi dn cs dc) (hx : Ext W W2) : RunAt w W2 g n s hi dn cs dc :=
  ⟨h.bs.ext hx, stE.ext h.rep hx, h.bh.ext hx, h.bd.ext hx, h.dna, h.inv, h.his, h.links, h.len, h.ge, h.ext.trans' hx⟩
theorem RunAt.more {w W : World} {g n : Nat} {s : St} {hi : Int → Int} {dn : Int → Int → Bool} {cs : List Value} {dc : Array Value} (h : RunAt w W g n s hi dn cs dc) : RunAt w W g (n + 1) s hi dn cs dc :=
  ⟨h.bs, h.rep, h.bh, h.bd, h.dna, h.inv, h.his, h.links, Nat.le_succ_of_le h.len, h.ge, h.ext⟩
theorem st_mono {w : World} {X Y : Avoid} {cs : List Value} {s : St} (h : stE.rep w X cs s) (hY : ∀ k, Y k → X k) : stE.rep w Y cs s := by
  obtain ⟨vl, vs, rfl, s1, s2, s3, s4⟩ := st_rep.1 h
  exact st_rep.2 ⟨vl, vs, rfl, s1, s2, s3.mono fun k _ hk => hY k hk, s4.mono fun k _ hk => hY k hk⟩
theorem RunAt.next {w W W5 : World} {g n : Nat} {s K : St} {hi : Int → Int} {dn : Int → Int → Bool} {cs cs3 : List Value} {dc : Array Value} {who q m : Int} (h : RunAt w W g n s hi dn cs dc)
    (hB : Blk W5 g 26 cs3.toArray) (hC : Chg [g] W W5) (hrep : stE.rep W (RX g) cs3 K) (hl : K.sess.length ≤ n + 1 ∧ K.links = []) (hI : InvR K (upd1 hi who (max (hi who) q)) (upd2 dn who q)) (hm : max (hi who) q = m)
    (w0 : 0 ≤ who) (w4 : who < 4) (q0 : 1 ≤ q) (q4 : q ≤ 60) :
    RunAt w (((W5.setCell ⟨g + 1 + 1, who.toNat * 64 + q.toNat, none⟩ (.bool true)).setCell ⟨g + 1, who.toNat, none⟩ (.int .u64 m)).drew) g (n + 1) K (upd1 hi who m) (upd2 dn who q) cs3 (dc.setIfInBounds (who.toNat * 64 + q.toNat) (.bool true)) := by
  have c2 : Chg [g + 1, g + 1 + 1] W5 (((W5.setCell ⟨g + 1 + 1, who.toNat * 64 + q.toNat, none⟩ (.bool true)).setCell ⟨g + 1, who.toNat, none⟩ (.int .u64 m)).drew) := (((Chg.refl _ _).set (by simp) _).set (by simp) _).drew
  have c3 : Chg [g, g + 1, g + 1 + 1] W (((W5.setCell ⟨g + 1 + 1, who.toNat * 64 + q.toNat, none⟩ (.bool true)).setCell ⟨g + 1, who.toNat, none⟩ (.int .u64 m)).drew) := (hC.mono (by simp)).trans (c2.mono (by simp))
  have hh5 := h.bh.chg hC (by simp)
  have hd5 := h.bd.chg hC (by simp; omega)
  subst hm
  refine ⟨hB.chg c2 (by simp; omega), ?_, ?_, ?_, h.dna.set w0 w4 (by omega) (by omega), hI, fun x => ?_, hl.2, hl.1, h.ge, h.ext.then_ c3 ?_⟩
  · exact stE.chg hrep c3 fun k hk _ => by
      rcases List.mem_cons.1 hk with rfl | hk
      · exact .inl rfl
      · rcases List.mem_cons.1 hk with rfl | hk
        · exact .inr (.inl rfl)
        · exact .inr (.inr (List.mem_singleton.1 hk))
  · have := (hh5.far (p := ⟨g + 1 + 1, who.toNat * 64 + q.toNat, none⟩) (by show g + 1 ≠ g + 1 + 1; omega) (.bool true)).set_ who.toNat (.int .u64 (max (hi who) q))
    rw [hcells_set hi w0 w4] at this
    exact this
  · exact ((hd5.set_ (who.toNat * 64 + q.toNat) (.bool true)).far (p := ⟨g + 1, who.toNat, none⟩) (by show g + 1 + 1 ≠ g + 1; omega) _)
  · have h1 := h.his x
    have h2 := h.his who
    unfold upd1
    split
    · omega
    · exact h1
  · have := h.ge
    simp
    omega
theorem RX_lt {w W : World} {g n k : Nat} {s : St} {hi : Int → Int} {dn : Int → Int → Bool} {cs : List Value} {dc : Array Value} (h : RunAt w W g n s hi dn cs dc) (hk : RX g k) : k < W.heap.size := by
  rcases hk with rfl | rfl | rfl
  · exact h.bs.lt
  · exact h.bh.lt
  · exact h.bd.lt
set_option maxHeartbeats 6400000 in
theorem sessRuns_walk (xl : Value) (l : List (Int × Int × Unit)) (w : World) (hl : Enc.Sl twE w noneAt xl l) :
    Calls Try.prog 4 #[xl] w fun e w' => e = .returned (.bool true) ∧ Ext w w' := by
  obtain ⟨A, c, rfl, k1, k2⟩ := hl.form
  unfold maxLen at k2
  by_cases hn : (40 : Int) < l.length
  · go_enter Try.func4, Try.ntmps4
    go_wp2_with (go_at_call 10; refine (begun19_b _).mono ?_; rintro e w1 ⟨rfl, hx1⟩)
    go_ret
    exact ⟨rfl, hx1⟩
  · have hn2 : (l.length : Int) ≤ 40 := by omega
    clear hn
    go_enter Try.func4, Try.ntmps4
    go_wp2_with fail
    refine (begun19_b _).mono ?_
    rintro e w1 ⟨rfl, hx1⟩
    go_wp2_with fail
    obtain ⟨hS, hH, hD, hx0⟩ := new3 w1 26 40 42 #[.int .u64 0, .int .u64 0, .slice none 0 0, .slice none 0 0] #[.int .u64 0, .int .u64 0, .int .u64 0, .int .u64 0] Try.zeroCells42
    have hgw := hx1.size
    have hx0' := hx1.trans' hx0
    obtain ⟨g, hg⟩ : ∃ g, w1.heap.size = g := ⟨_, rfl⟩
    rw [hg] at hS hH hD hgw
    have hR0 : RunAt w _ g 0 St0 (fun _ => 0) (fun _ _ => false) [.int .u64 0, .int .u64 0, .slice none 0 0, .slice none 0 0] _ :=
      ⟨hS, st0_rep _ _, hH, hD, DnAt.zero, InvR.start, fun x => by simp, rfl, by simp [St0], hgw, hx0'⟩
    have HR0 := hide hR0
    clear hR0 hS hH hD
    generalize ((w1.alloc (.cells #[.int .u64 0, .int .u64 0, .slice none 0 0, .slice none 0 0] 26)).alloc (.cells #[.int .u64 0, .int .u64 0, .int .u64 0, .int .u64 0] 40)).alloc (.cells Try.zeroCells42 42) = w2 at *
    clear hx0 hx0'
    generalize w1.heap.size = g1 at *
    subst hg
    go_loopw [6] (fun i wr => ∃ (k : Nat) (s : St) (hi : Int → Int) (dn : Int → Int → Bool) (cs : List Value) (dc : Array Value), (k : Int) ≤ l.length ∧ i = .int .i64 k ∧ RunAt w wr g1 k s hi dn cs dc) (fun i _ => (l.length - intOf i).toNat)
    case atStart => exact ⟨0, _, _, _, _, _, by omega, rfl, HR0.out⟩
    case round =>
      obtain ⟨k, s, hi, dn, cs, dc, hk, rfl, hR⟩ := hrel
      by_cases hlt : (k : Int) < l.length
      · obtain ⟨ad, a, b, rfl, hbk, p0, p1, a0, a1, b0, b1⟩ := tw_at (hl.ext hR.ext) (k := k) (by omega)
        go_wp2_with fail
        go_region
        obtain ⟨who, hwho, w0, w4⟩ : ∃ who, a % 4 = who ∧ 0 ≤ who ∧ who < 4 := ⟨_, rfl, by omega, by omega⟩
        obtain ⟨q, hq, q0, q4⟩ : ∃ q, 1 + b % 60 = q ∧ 1 ≤ q ∧ q ≤ 60 := ⟨_, rfl, by omega, by omega⟩
        rw [hwho, hq]
        have hRd := hR.to ((Ext.rfl' wr).drew')
        clear hR p0 p1 hbk a0 a1 b0 b1 hwho hq
        generalize wr.drew = wd at *
        obtain ⟨Al, cl, As, cs', hcs, -, -, -, -⟩ := st_open hRd.rep
        subst hcs
        have hC := Blk.new wd 28 #[.int .i64 1, .int .i64 who, .int .u64 q, str [], str [], .int .u64 0]
        have hxC := (Ext.rfl' wd).alloc' (.cells #[.int .i64 1, .int .i64 who, .int .u64 q, str [], str [], .int .u64 0] 28)
        have hRc := hRd.to hxC
        have c0 := (hRc.bs.cell 0).trans rfl
        have c1 := (hRc.bs.cell 1).trans rfl
        have c2 := (hRc.bs.cell 2).trans rfl
        have c3 := (hRc.bs.cell 3).trans rfl
        have HASK := hide (sask_b s _ (cmQ 1 who q) _ (st_mono hRc.rep (fun _ h => h.elim)) (cmQ_wide ⟨by omega, by omega⟩ ⟨by omega, by omega⟩ ⟨by omega, by omega⟩) hRc.inv.rise (by have := hRc.len; omega))
        have HAI := hide (hRc.inv.ask w0 w4 q0)
        go_wp2_with fail
        refine HASK.out.mono ?_
        rintro e W1 ⟨rfl, hx1⟩
        rw [show ask s (cmQ 1 who q).client (cmQ 1 who q).seq = _ from HAI.out]
        clear c0 c1 c2 c3 HASK HAI hRc
        have hR1 := hRd.to (hxC.trans' hx1)
        have hhi := hR1.his who
        by_cases hst : stale q (hi who) = true
        · rw [if_pos hst]
          have hh : 4 ≤ hi who ∧ q ≤ hi who - 4 := by unfold stale at hst; simpa using hst
          obtain ⟨hh1, hh2⟩ := hh
          have hR2 := hR1.to ((Ext.rfl' W1).alloc' (.cells (acells ⟨14, []⟩).toArray 31))
          have e0 := (hR2.bh.cell who.toNat).trans (hcells_at hi w0 w4)
          go_wp2
          go_roundw
          case rel => exact ⟨k + 1, s, hi, dn, _, dc, by omega, by go_num, hR2.more⟩
          case measure => simp [intOf]; omega
        · rw [if_neg hst]
          have hsf : stale q (hi who) = false := by simpa using hst
          clear hst
          by_cases hdq : dn who q = true
          · rw [if_pos hdq]
            have hR2 := hR1.to ((Ext.rfl' W1).alloc' (.cells (acells ⟨0, tx who q⟩).toArray 31))
            have hAn := Blk.new W1 31 (acells ⟨0, tx who q⟩).toArray
            have e0 := (hR2.bh.cell who.toNat).trans (hcells_at hi w0 w4)
            have e1 := (hR2.bd.cell (who.toNat * 64 + q.toNat)).trans (hR2.dna.at_ who q w0 w4 (by omega) (by omega))
            rw [hdq] at e1
            have hh3 : 4 ≤ hi who → ¬ q ≤ hi who - 4 := by unfold stale at hsf; simpa using hsf
            by_cases hh1 : 4 ≤ hi who
            · have hh2 := hh3 hh1
              clear hh3 hsf
              go_wp2_with fail
              generalize (W1.alloc (.cells (acells ⟨0, tx who q⟩).toArray 31)) = w3 at *
              generalize W1.heap.size = g10 at *
              refine Rg.regionT Try.checked.mixed 130 15 (by kernel_rfl) [
                (fun x_ _ => x_ = .bool true),
                (fun x_ _ => x_ = .bool false),
                (fun x_ _ => x_ = .bool false),
                (fun x_ _ => x_ = .pointer (some ⟨g10, 0, none⟩)),
                (fun x_ _ => x_ = .int .i64 0),
                (fun x_ _ => x_ = .bool false),
                (fun x_ _ => x_ = .bool false),
                (fun x_ _ => x_ = .bool false),
                (fun x_ _ => x_ = .pointer (some ⟨g10, 1, none⟩)),
                (fun x_ _ => x_ = str (tx who q)),
                (fun x_ _ => x_ = .int .i64 who),
                (fun x_ _ => x_ = .int .u64 q),
                (fun x_ _ => x_ = str (tx who q)),
                (fun x_ _ => x_ = .bool false),
                (fun x_ _ => x_ = .bool false)] (fun W => Ext w3 W) Ext rfl rfl rfl
                ?st ((Ext.rfl' w3).drew') ?ob ?en
              case st => exact ⟨fun _ _ _ h _ => h, fun _ _ _ h _ => h, fun _ _ _ h _ => h, fun _ _ _ h _ => h, fun _ _ _ h _ => h, fun _ _ _ h _ => h, fun _ _ _ h _ => h, fun _ _ _ h _ => h, fun _ _ _ h _ => h, fun _ _ _ h _ => h, fun _ _ _ h _ => h, fun _ _ _ h _ => h, fun _ _ _ h _ => h, fun _ _ _ h _ => h, fun _ _ _ h _ => h, trivial⟩
              case ob =>
                refine ⟨Rg.at_run [11] rfl ?_, ?_⟩
                · intro ρ W hR ⟨q11, _⟩
                  replace q11 : ρ 11 = .bool true := q11
                  refine ⟨rfl, ?_⟩
                  exact Rg.run_ok (v := .bool true) (by simp [execOp, Rg.ev, go_sem, q11]) ⟨rfl, hR, Ext.rfl' _⟩
                refine ⟨Rg.at_run [81] rfl ?_, ?_⟩
                · intro ρ W hR ⟨q81, _⟩
                  replace q81 : ρ 81 = .bool true := q81
                  refine ⟨rfl, ?_⟩
                  exact Rg.run_ok (v := .bool false) (by simp [execOp, Rg.ev, go_sem, q81]) ⟨rfl, hR, Ext.rfl' _⟩
                refine ⟨Rg.at_run [82] rfl ?_, ?_⟩
                · intro ρ W hR ⟨q82, _⟩
                  replace q82 : ρ 82 = .bool false := q82
                  refine ⟨rfl, ?_⟩
                  exact Rg.run_ok (v := .bool false) (by simp [execOp, Rg.ev, go_sem, q82]) ⟨rfl, hR, Ext.rfl' _⟩
                refine ⟨Rg.at_run [10, 83] rfl ?_, ?_⟩
                · intro ρ W hR ⟨q10, q83, _⟩
                  replace q10 : ρ 10 = .pointer (some ⟨g10, 0, none⟩) := q10
                  replace q83 : ρ 83 = .bool false := q83
                  refine ⟨by simp [Rg.wants, q83], ?_⟩
                  exact Rg.run_ok (v := .pointer (some ⟨g10, 0, none⟩)) (by simp [execOp, Rg.ev, go_sem, q10]) ⟨rfl, hR, Ext.rfl' _⟩
                refine ⟨Rg.at_run [84, 83] rfl ?_, ?_⟩
                · intro ρ W hR ⟨q84, q83, _⟩
                  replace q84 : ρ 84 = .pointer (some ⟨g10, 0, none⟩) := q84
                  replace q83 : ρ 83 = .bool false := q83
                  refine ⟨by simp [Rg.wants, q83], ?_⟩
                  have c0_ : W.cell? ⟨g10, 0, none⟩ = some (.int .i64 0) := ((hAn.ext hR).cell 0).trans rfl
                  exact Rg.run_ok (v := .int .i64 0) (by simp [execOp, Rg.ev, go_sem, q84, c0_]) ⟨rfl, hR, Ext.rfl' _⟩
                refine ⟨Rg.at_run [85, 83] rfl ?_, ?_⟩
                · intro ρ W hR ⟨q85, q83, _⟩
                  replace q85 : ρ 85 = .int .i64 0 := q85
                  replace q83 : ρ 83 = .bool false := q83
                  refine ⟨by simp [Rg.wants, q83], ?_⟩
                  exact Rg.run_ok (v := .bool false) (by simp [execOp, Rg.ev, go_sem, q85]) ⟨rfl, hR, Ext.rfl' _⟩
                refine ⟨Rg.at_run [83, 86] rfl ?_, ?_⟩
                · intro ρ W hR ⟨q83, q86, _⟩
                  replace q83 : ρ 83 = .bool false := q83
                  replace q86 : ρ 86 = .bool false := q86
                  refine ⟨rfl, ?_⟩
                  exact Rg.run_ok (v := .bool false) (by simp [execOp, Rg.ev, go_sem, q83, q86]) ⟨rfl, hR, Ext.rfl' _⟩
                refine ⟨Rg.at_run [87] rfl ?_, ?_⟩
                · intro ρ W hR ⟨q87, _⟩
                  replace q87 : ρ 87 = .bool false := q87
                  refine ⟨rfl, ?_⟩
                  exact Rg.run_ok (v := .bool false) (by simp [execOp, Rg.ev, go_sem, q87]) ⟨rfl, hR, Ext.rfl' _⟩
                refine ⟨Rg.at_run [10, 88] rfl ?_, ?_⟩
                · intro ρ W hR ⟨q10, q88, _⟩
                  replace q10 : ρ 10 = .pointer (some ⟨g10, 0, none⟩) := q10
                  replace q88 : ρ 88 = .bool false := q88
                  refine ⟨by simp [Rg.wants, q88], ?_⟩
                  exact Rg.run_ok (v := .pointer (some ⟨g10, 1, none⟩)) (by simp [execOp, Rg.ev, go_sem, q10]) ⟨rfl, hR, Ext.rfl' _⟩
                refine ⟨Rg.at_run [89, 88] rfl ?_, ?_⟩
                · intro ρ W hR ⟨q89, q88, _⟩
                  replace q89 : ρ 89 = .pointer (some ⟨g10, 1, none⟩) := q89
                  replace q88 : ρ 88 = .bool false := q88
                  refine ⟨by simp [Rg.wants, q88], ?_⟩
                  have c1_ : W.cell? ⟨g10, 1, none⟩ = some (str (tx who q)) := ((hAn.ext hR).cell 1).trans rfl
                  exact Rg.run_ok (v := str (tx who q)) (by simp [execOp, Rg.ev, go_sem, q89, c1_]) ⟨rfl, hR, Ext.rfl' _⟩
                refine ⟨Rg.at_run [7, 88] rfl ?_, ?_⟩
                · intro ρ W hR ⟨q7, q88, _⟩
                  replace q7 : ρ 7 = .int .i64 who := q7
                  replace q88 : ρ 88 = .bool false := q88
                  refine ⟨by simp [Rg.wants, q88], ?_⟩
                  exact Rg.run_ok (v := .int .i64 who) (by simp [execOp, Rg.ev, go_sem, q7]) ⟨rfl, hR, Ext.rfl' _⟩
                refine ⟨Rg.at_run [8, 88] rfl ?_, ?_⟩
                · intro ρ W hR ⟨q8, q88, _⟩
                  replace q8 : ρ 8 = .int .u64 q := q8
                  replace q88 : ρ 88 = .bool false := q88
                  refine ⟨by simp [Rg.wants, q88], ?_⟩
                  exact Rg.run_ok (v := .int .u64 q) (by simp [execOp, Rg.ev, go_sem, q8]) ⟨rfl, hR, Ext.rfl' _⟩
                refine ⟨Rg.at_run [91, 92, 88] rfl ?_, ?_⟩
                · intro ρ W hR ⟨q91, q92, q88, _⟩
                  replace q91 : ρ 91 = .int .i64 who := q91
                  replace q92 : ρ 92 = .int .u64 q := q92
                  replace q88 : ρ 88 = .bool false := q88
                  refine ⟨by simp [Rg.wants, q88], ?_⟩
                  refine Rg.run_enter (by simp [execOp, Rg.ev, go_sem, q91, q92]; exact ⟨⟨rfl, rfl⟩, rfl⟩) ?_
                  refine (text19_b who q W w0 w4 q0 q4).mono ?_
                  rintro e_ w2 ⟨rfl, hxx⟩
                  exact ⟨_, rfl, rfl, hR.trans' hxx, hxx⟩
                refine ⟨Rg.at_run [90, 93, 88] rfl ?_, ?_⟩
                · intro ρ W hR ⟨q90, q93, q88, _⟩
                  replace q90 : ρ 90 = str (tx who q) := q90
                  replace q93 : ρ 93 = str (tx who q) := q93
                  replace q88 : ρ 88 = .bool false := q88
                  refine ⟨by simp [Rg.wants, q88], ?_⟩
                  exact Rg.run_ok (v := .bool false) (by simp [execOp, Rg.ev, go_sem, q90, q93]) ⟨rfl, hR, Ext.rfl' _⟩
                refine ⟨Rg.at_run [88, 94] rfl ?_, ?_⟩
                · intro ρ W hR ⟨q88, q94, _⟩
                  replace q88 : ρ 88 = .bool false := q88
                  replace q94 : ρ 94 = .bool false := q94
                  refine ⟨rfl, ?_⟩
                  exact Rg.run_ok (v := .bool false) (by simp [execOp, Rg.ev, go_sem, q88, q94]) ⟨rfl, hR, Ext.rfl' _⟩
                trivial
              case en =>
                intro tm W hR hsz hk
                rw [Rg.fin_eq (ds := [81, 82, 83, 84, 85, 86, 87, 88, 89, 90, 91, 92, 93, 94, 95]) rfl rfl rfl hsz hk]
                have k81 : tm.getD 81 undef = .bool true := hk 81
                have k82 : tm.getD 82 undef = .bool false := hk 82
                have k83 : tm.getD 83 undef = .bool false := hk 83
                have k84 : tm.getD 84 undef = .pointer (some ⟨g10, 0, none⟩) := hk 84
                have k85 : tm.getD 85 undef = .int .i64 0 := hk 85
                have k86 : tm.getD 86 undef = .bool false := hk 86
                have k87 : tm.getD 87 undef = .bool false := hk 87
                have k88 : tm.getD 88 undef = .bool false := hk 88
                have k89 : tm.getD 89 undef = .pointer (some ⟨g10, 1, none⟩) := hk 89
                have k90 : tm.getD 90 undef = str (tx who q) := hk 90
                have k91 : tm.getD 91 undef = .int .i64 who := hk 91
                have k92 : tm.getD 92 undef = .int .u64 q := hk 92
                have k93 : tm.getD 93 undef = str (tx who q) := hk 93
                have k94 : tm.getD 94 undef = .bool false := hk 94
                have k95 : tm.getD 95 undef = .bool false := hk 95
                clear hk hsz
                simp only [Rg.putAll, List.setIfInBounds_toArray, List.set_cons_zero, List.set_cons_succ, k81, k82, k83, k84, k85, k86, k87, k88, k89, k90, k91, k92, k93, k94, k95]
                clear k81
                clear k82
                clear k83
                clear k84
                clear k85
                clear k86
                clear k87
                clear k88
                clear k89
                clear k90
                clear k91
                clear k92
                clear k93
                clear k94
                clear k95
                refine Rg.nil_list ?_
                go_wp2
                go_roundw
                case rel => exact ⟨k + 1, s, hi, dn, _, dc, by omega, by go_num, (hR2.to hR).more⟩
                case measure => simp [intOf]; omega
            · clear hh3 hsf
              go_wp2_with fail
              generalize (W1.alloc (.cells (acells ⟨0, tx who q⟩).toArray 31)) = w3 at *
              generalize W1.heap.size = g10 at *
              refine Rg.regionT Try.checked.mixed 130 15 (by kernel_rfl) [
                (fun x_ _ => x_ = .bool true),
                (fun x_ _ => x_ = .bool false),
                (fun x_ _ => x_ = .bool false),
                (fun x_ _ => x_ = .pointer (some ⟨g10, 0, none⟩)),
                (fun x_ _ => x_ = .int .i64 0),
                (fun x_ _ => x_ = .bool false),
                (fun x_ _ => x_ = .bool false),
                (fun x_ _ => x_ = .bool false),
                (fun x_ _ => x_ = .pointer (some ⟨g10, 1, none⟩)),
                (fun x_ _ => x_ = str (tx who q)),
                (fun x_ _ => x_ = .int .i64 who),
                (fun x_ _ => x_ = .int .u64 q),
                (fun x_ _ => x_ = str (tx who q)),
                (fun x_ _ => x_ = .bool false),
                (fun x_ _ => x_ = .bool false)] (fun W => Ext w3 W) Ext rfl rfl rfl
                ?st ((Ext.rfl' w3).drew') ?ob ?en
              case st => exact ⟨fun _ _ _ h _ => h, fun _ _ _ h _ => h, fun _ _ _ h _ => h, fun _ _ _ h _ => h, fun _ _ _ h _ => h, fun _ _ _ h _ => h, fun _ _ _ h _ => h, fun _ _ _ h _ => h, fun _ _ _ h _ => h, fun _ _ _ h _ => h, fun _ _ _ h _ => h, fun _ _ _ h _ => h, fun _ _ _ h _ => h, fun _ _ _ h _ => h, fun _ _ _ h _ => h, trivial⟩
              case ob =>
                refine ⟨Rg.at_run [11] rfl ?_, ?_⟩
                · intro ρ W hR ⟨q11, _⟩
                  replace q11 : ρ 11 = .bool true := q11
                  refine ⟨rfl, ?_⟩
                  exact Rg.run_ok (v := .bool true) (by simp [execOp, Rg.ev, go_sem, q11]) ⟨rfl, hR, Ext.rfl' _⟩
                refine ⟨Rg.at_run [81] rfl ?_, ?_⟩
                · intro ρ W hR ⟨q81, _⟩
                  replace q81 : ρ 81 = .bool true := q81
                  refine ⟨rfl, ?_⟩
                  exact Rg.run_ok (v := .bool false) (by simp [execOp, Rg.ev, go_sem, q81]) ⟨rfl, hR, Ext.rfl' _⟩
                refine ⟨Rg.at_run [82] rfl ?_, ?_⟩
                · intro ρ W hR ⟨q82, _⟩
                  replace q82 : ρ 82 = .bool false := q82
                  refine ⟨rfl, ?_⟩
                  exact Rg.run_ok (v := .bool false) (by simp [execOp, Rg.ev, go_sem, q82]) ⟨rfl, hR, Ext.rfl' _⟩
                refine ⟨Rg.at_run [10, 83] rfl ?_, ?_⟩
                · intro ρ W hR ⟨q10, q83, _⟩
                  replace q10 : ρ 10 = .pointer (some ⟨g10, 0, none⟩) := q10
                  replace q83 : ρ 83 = .bool false := q83
                  refine ⟨by simp [Rg.wants, q83], ?_⟩
                  exact Rg.run_ok (v := .pointer (some ⟨g10, 0, none⟩)) (by simp [execOp, Rg.ev, go_sem, q10]) ⟨rfl, hR, Ext.rfl' _⟩
                refine ⟨Rg.at_run [84, 83] rfl ?_, ?_⟩
                · intro ρ W hR ⟨q84, q83, _⟩
                  replace q84 : ρ 84 = .pointer (some ⟨g10, 0, none⟩) := q84
                  replace q83 : ρ 83 = .bool false := q83
                  refine ⟨by simp [Rg.wants, q83], ?_⟩
                  have c0_ : W.cell? ⟨g10, 0, none⟩ = some (.int .i64 0) := ((hAn.ext hR).cell 0).trans rfl
                  exact Rg.run_ok (v := .int .i64 0) (by simp [execOp, Rg.ev, go_sem, q84, c0_]) ⟨rfl, hR, Ext.rfl' _⟩
                refine ⟨Rg.at_run [85, 83] rfl ?_, ?_⟩
                · intro ρ W hR ⟨q85, q83, _⟩
                  replace q85 : ρ 85 = .int .i64 0 := q85
                  replace q83 : ρ 83 = .bool false := q83
                  refine ⟨by simp [Rg.wants, q83], ?_⟩
                  exact Rg.run_ok (v := .bool false) (by simp [execOp, Rg.ev, go_sem, q85]) ⟨rfl, hR, Ext.rfl' _⟩
                refine ⟨Rg.at_run [83, 86] rfl ?_, ?_⟩
                · intro ρ W hR ⟨q83, q86, _⟩
                  replace q83 : ρ 83 = .bool false := q83
                  replace q86 : ρ 86 = .bool false := q86
                  refine ⟨rfl, ?_⟩
                  exact Rg.run_ok (v := .bool false) (by simp [execOp, Rg.ev, go_sem, q83, q86]) ⟨rfl, hR, Ext.rfl' _⟩
                refine ⟨Rg.at_run [87] rfl ?_, ?_⟩
                · intro ρ W hR ⟨q87, _⟩
                  replace q87 : ρ 87 = .bool false := q87
                  refine ⟨rfl, ?_⟩
                  exact Rg.run_ok (v := .bool false) (by simp [execOp, Rg.ev, go_sem, q87]) ⟨rfl, hR, Ext.rfl' _⟩
                refine ⟨Rg.at_run [10, 88] rfl ?_, ?_⟩
                · intro ρ W hR ⟨q10, q88, _⟩
                  replace q10 : ρ 10 = .pointer (some ⟨g10, 0, none⟩) := q10
                  replace q88 : ρ 88 = .bool false := q88
                  refine ⟨by simp [Rg.wants, q88], ?_⟩
                  exact Rg.run_ok (v := .pointer (some ⟨g10, 1, none⟩)) (by simp [execOp, Rg.ev, go_sem, q10]) ⟨rfl, hR, Ext.rfl' _⟩
                refine ⟨Rg.at_run [89, 88] rfl ?_, ?_⟩
                · intro ρ W hR ⟨q89, q88, _⟩
                  replace q89 : ρ 89 = .pointer (some ⟨g10, 1, none⟩) := q89
                  replace q88 : ρ 88 = .bool false := q88
                  refine ⟨by simp [Rg.wants, q88], ?_⟩
                  have c1_ : W.cell? ⟨g10, 1, none⟩ = some (str (tx who q)) := ((hAn.ext hR).cell 1).trans rfl
                  exact Rg.run_ok (v := str (tx who q)) (by simp [execOp, Rg.ev, go_sem, q89, c1_]) ⟨rfl, hR, Ext.rfl' _⟩
                refine ⟨Rg.at_run [7, 88] rfl ?_, ?_⟩
                · intro ρ W hR ⟨q7, q88, _⟩
                  replace q7 : ρ 7 = .int .i64 who := q7
                  replace q88 : ρ 88 = .bool false := q88
                  refine ⟨by simp [Rg.wants, q88], ?_⟩
                  exact Rg.run_ok (v := .int .i64 who) (by simp [execOp, Rg.ev, go_sem, q7]) ⟨rfl, hR, Ext.rfl' _⟩
                refine ⟨Rg.at_run [8, 88] rfl ?_, ?_⟩
                · intro ρ W hR ⟨q8, q88, _⟩
                  replace q8 : ρ 8 = .int .u64 q := q8
                  replace q88 : ρ 88 = .bool false := q88
                  refine ⟨by simp [Rg.wants, q88], ?_⟩
                  exact Rg.run_ok (v := .int .u64 q) (by simp [execOp, Rg.ev, go_sem, q8]) ⟨rfl, hR, Ext.rfl' _⟩
                refine ⟨Rg.at_run [91, 92, 88] rfl ?_, ?_⟩
                · intro ρ W hR ⟨q91, q92, q88, _⟩
                  replace q91 : ρ 91 = .int .i64 who := q91
                  replace q92 : ρ 92 = .int .u64 q := q92
                  replace q88 : ρ 88 = .bool false := q88
                  refine ⟨by simp [Rg.wants, q88], ?_⟩
                  refine Rg.run_enter (by simp [execOp, Rg.ev, go_sem, q91, q92]; exact ⟨⟨rfl, rfl⟩, rfl⟩) ?_
                  refine (text19_b who q W w0 w4 q0 q4).mono ?_
                  rintro e_ w2 ⟨rfl, hxx⟩
                  exact ⟨_, rfl, rfl, hR.trans' hxx, hxx⟩
                refine ⟨Rg.at_run [90, 93, 88] rfl ?_, ?_⟩
                · intro ρ W hR ⟨q90, q93, q88, _⟩
                  replace q90 : ρ 90 = str (tx who q) := q90
                  replace q93 : ρ 93 = str (tx who q) := q93
                  replace q88 : ρ 88 = .bool false := q88
                  refine ⟨by simp [Rg.wants, q88], ?_⟩
                  exact Rg.run_ok (v := .bool false) (by simp [execOp, Rg.ev, go_sem, q90, q93]) ⟨rfl, hR, Ext.rfl' _⟩
                refine ⟨Rg.at_run [88, 94] rfl ?_, ?_⟩
                · intro ρ W hR ⟨q88, q94, _⟩
                  replace q88 : ρ 88 = .bool false := q88
                  replace q94 : ρ 94 = .bool false := q94
                  refine ⟨rfl, ?_⟩
                  exact Rg.run_ok (v := .bool false) (by simp [execOp, Rg.ev, go_sem, q88, q94]) ⟨rfl, hR, Ext.rfl' _⟩
                trivial
              case en =>
                intro tm W hR hsz hk
                rw [Rg.fin_eq (ds := [81, 82, 83, 84, 85, 86, 87, 88, 89, 90, 91, 92, 93, 94, 95]) rfl rfl rfl hsz hk]
                have k81 : tm.getD 81 undef = .bool true := hk 81
                have k82 : tm.getD 82 undef = .bool false := hk 82
                have k83 : tm.getD 83 undef = .bool false := hk 83
                have k84 : tm.getD 84 undef = .pointer (some ⟨g10, 0, none⟩) := hk 84
                have k85 : tm.getD 85 undef = .int .i64 0 := hk 85
                have k86 : tm.getD 86 undef = .bool false := hk 86
                have k87 : tm.getD 87 undef = .bool false := hk 87
                have k88 : tm.getD 88 undef = .bool false := hk 88
                have k89 : tm.getD 89 undef = .pointer (some ⟨g10, 1, none⟩) := hk 89
                have k90 : tm.getD 90 undef = str (tx who q) := hk 90
                have k91 : tm.getD 91 undef = .int .i64 who := hk 91
                have k92 : tm.getD 92 undef = .int .u64 q := hk 92
                have k93 : tm.getD 93 undef = str (tx who q) := hk 93
                have k94 : tm.getD 94 undef = .bool false := hk 94
                have k95 : tm.getD 95 undef = .bool false := hk 95
                clear hk hsz
                simp only [Rg.putAll, List.setIfInBounds_toArray, List.set_cons_zero, List.set_cons_succ, k81, k82, k83, k84, k85, k86, k87, k88, k89, k90, k91, k92, k93, k94, k95]
                clear k81
                clear k82
                clear k83
                clear k84
                clear k85
                clear k86
                clear k87
                clear k88
                clear k89
                clear k90
                clear k91
                clear k92
                clear k93
                clear k94
                clear k95
                refine Rg.nil_list ?_
                go_wp2
                go_roundw
                case rel => exact ⟨k + 1, s, hi, dn, _, dc, by omega, by go_num, (hR2.to hR).more⟩
                case measure => simp [intOf]; omega
          · rw [if_neg hdq]
            by_cases hh1 : 4 ≤ hi who
            · have hR2 := hR1.to ((Ext.rfl' W1).alloc' (.cells (acells ⟨0, []⟩).toArray 31))
              have e0 := (hR2.bh.cell who.toNat).trans (hcells_at hi w0 w4)
              have e1 := (hR2.bd.cell (who.toNat * 64 + q.toNat)).trans (hR2.dna.at_ who q w0 w4 (by omega) (by omega))
              have hdn : dn who q = false := by simpa using hdq
              rw [hdn] at e1
              have hCC := (hC.ext hx1).ext ((Ext.rfl' W1).alloc' (.cells (acells ⟨0, []⟩).toArray 31))
              have HSF := hide hsf
              have hh2 : ¬ q ≤ hi who - 4 := by unfold stale at hsf; simpa [hh1] using hsf
              clear hsf
              obtain ⟨gC, hgC⟩ : ∃ g, wd.heap.size = g := ⟨_, rfl⟩
              rw [hgC] at hCC
              go_wp2_with fail
              generalize (W1.alloc (.cells (acells ⟨0, []⟩).toArray 31)) = w3 at *
              have hBS := hR2.bs
              have HKEEP := hide (fun W (hW : Ext w3 W) => KX.skeepX_b (RX g1) s _ (cmQ 1 who q) ⟨0, tx who q⟩ W (fun k hk => Nat.lt_of_lt_of_le (RX_lt hR2 hk) hW.size) (stE.ext hR2.rep hW) (cmQ_wide ⟨by omega, by omega⟩ ⟨by omega, by omega⟩ ⟨by omega, by omega⟩) ⟨by constructor <;> simp, by simp [tx, maxLen]⟩ hR2.inv.rise (by have := hR2.len; omega) (by rw [hR2.links]; simp) (fun x hx => ⟨(hR2.inv.win x hx).1, by have := (hR2.inv.win x hx).len; omega⟩))
              try clear e0 e1
              refine Rg.regionT Try.checked.mixed 130 7 (by kernel_rfl) [
                (fun x_ _ => x_ = .agg #[.int .u64 s.now, .int .u64 s.count, .slice Al s.links.length cl, .slice As s.sess.length cs']),
                (fun x_ _ => x_ = .agg #[.int .i64 1, .int .i64 who, .int .u64 q, str [], str [], .int .u64 0]),
                (fun x_ _ => x_ = .int .i64 who),
                (fun x_ _ => x_ = .int .u64 q),
                (fun x_ _ => x_ = str (tx who q)),
                (fun x_ _ => x_ = .agg #[.int .i64 0, str (tx who q)]),
                (fun v W => ∃ cs : List Value, v = .agg cs.toArray ∧ stE.rep W (RX g1) cs (keep s who q ⟨0, tx who q⟩))] (fun W => Ext w3 W) Ext rfl rfl rfl
                ?st ((Ext.rfl' w3).drew') ?ob ?en
              case st => exact ⟨fun _ _ _ h _ => h, fun _ _ _ h _ => h, fun _ _ _ h _ => h, fun _ _ _ h _ => h, fun _ _ _ h _ => h, fun _ _ _ h _ => h, fun _ _ _ h hx => ⟨h.choose, h.choose_spec.1, stE.ext h.choose_spec.2 hx⟩, trivial⟩
              case ob =>
                refine ⟨Rg.at_run [3] rfl ?_, ?_⟩
                · intro ρ W hR ⟨q3, _⟩
                  replace q3 : ρ 3 = .pointer (some ⟨g1, 0, none⟩) := q3
                  refine ⟨rfl, ?_⟩
                  have c0_ : W.cell? ⟨g1, 0, none⟩ = some (.int .u64 s.now) := ((hBS.ext hR).cell 0).trans rfl
                  have c1_ : W.cell? ⟨g1, 1, none⟩ = some (.int .u64 s.count) := ((hBS.ext hR).cell 1).trans rfl
                  have c2_ : W.cell? ⟨g1, 2, none⟩ = some (.slice Al s.links.length cl) := ((hBS.ext hR).cell 2).trans rfl
                  have c3_ : W.cell? ⟨g1, 3, none⟩ = some (.slice As s.sess.length cs') := ((hBS.ext hR).cell 3).trans rfl
                  exact Rg.run_ok (v := .agg #[.int .u64 s.now, .int .u64 s.count, .slice Al s.links.length cl, .slice As s.sess.length cs']) (by simp [execOp, Rg.ev, go_sem, q3, c0_, c1_, c2_, c3_]) ⟨rfl, hR, Ext.rfl' _⟩
                refine ⟨Rg.at_run [9] rfl ?_, ?_⟩
                · intro ρ W hR ⟨q9, _⟩
                  replace q9 : ρ 9 = .pointer (some ⟨gC, 0, none⟩) := q9
                  refine ⟨rfl, ?_⟩
                  have c0_ : W.cell? ⟨gC, 0, none⟩ = some (.int .i64 1) := ((hCC.ext hR).cell 0).trans rfl
                  have c1_ : W.cell? ⟨gC, 1, none⟩ = some (.int .i64 who) := ((hCC.ext hR).cell 1).trans rfl
                  have c2_ : W.cell? ⟨gC, 2, none⟩ = some (.int .u64 q) := ((hCC.ext hR).cell 2).trans rfl
                  have c3_ : W.cell? ⟨gC, 3, none⟩ = some (str []) := ((hCC.ext hR).cell 3).trans rfl
                  have c4_ : W.cell? ⟨gC, 4, none⟩ = some (str []) := ((hCC.ext hR).cell 4).trans rfl
                  have c5_ : W.cell? ⟨gC, 5, none⟩ = some (.int .u64 0) := ((hCC.ext hR).cell 5).trans rfl
                  exact Rg.run_ok (v := .agg #[.int .i64 1, .int .i64 who, .int .u64 q, str [], str [], .int .u64 0]) (by simp [execOp, Rg.ev, go_sem, q9, c0_, c1_, c2_, c3_, c4_, c5_]) ⟨rfl, hR, Ext.rfl' _⟩
                refine ⟨Rg.at_run [7] rfl ?_, ?_⟩
                · intro ρ W hR ⟨q7, _⟩
                  replace q7 : ρ 7 = .int .i64 who := q7
                  refine ⟨rfl, ?_⟩
                  exact Rg.run_ok (v := .int .i64 who) (by simp [execOp, Rg.ev, go_sem, q7]) ⟨rfl, hR, Ext.rfl' _⟩
                refine ⟨Rg.at_run [8] rfl ?_, ?_⟩
                · intro ρ W hR ⟨q8, _⟩
                  replace q8 : ρ 8 = .int .u64 q := q8
                  refine ⟨rfl, ?_⟩
                  exact Rg.run_ok (v := .int .u64 q) (by simp [execOp, Rg.ev, go_sem, q8]) ⟨rfl, hR, Ext.rfl' _⟩
                refine ⟨Rg.at_run [99, 100] rfl ?_, ?_⟩
                · intro ρ W hR ⟨q99, q100, _⟩
                  replace q99 : ρ 99 = .int .i64 who := q99
                  replace q100 : ρ 100 = .int .u64 q := q100
                  refine ⟨rfl, ?_⟩
                  refine Rg.run_enter (by simp [execOp, Rg.ev, go_sem, q99, q100]; exact ⟨⟨rfl, rfl⟩, rfl⟩) ?_
                  refine (text19_b who q W w0 w4 q0 q4).mono ?_
                  rintro e_ w2 ⟨rfl, hxx⟩
                  exact ⟨_, rfl, rfl, hR.trans' hxx, hxx⟩
                refine ⟨Rg.at_run [101] rfl ?_, ?_⟩
                · intro ρ W hR ⟨q101, _⟩
                  replace q101 : ρ 101 = str (tx who q) := q101
                  refine ⟨rfl, ?_⟩
                  exact Rg.run_ok (v := .agg #[.int .i64 0, str (tx who q)]) (by simp [execOp, Rg.ev, go_sem, q101]) ⟨rfl, hR, Ext.rfl' _⟩
                refine ⟨Rg.at_run [97, 98, 102] rfl ?_, ?_⟩
                · intro ρ W hR ⟨q97, q98, q102, _⟩
                  replace q97 : ρ 97 = .agg #[.int .u64 s.now, .int .u64 s.count, .slice Al s.links.length cl, .slice As s.sess.length cs'] := q97
                  replace q98 : ρ 98 = .agg #[.int .i64 1, .int .i64 who, .int .u64 q, str [], str [], .int .u64 0] := q98
                  replace q102 : ρ 102 = .agg #[.int .i64 0, str (tx who q)] := q102
                  refine ⟨rfl, ?_⟩
                  refine Rg.run_enter (by simp [execOp, Rg.ev, go_sem, q97, q98, q102]; exact ⟨⟨rfl, rfl⟩, rfl⟩) ?_
                  refine (HKEEP.out W hR).mono ?_
                  rintro e_ w2 ⟨cs3, rfl, hrep, hxx⟩
                  exact ⟨_, rfl, ⟨cs3, rfl, hrep⟩, hR.trans' hxx, hxx⟩
                trivial
              case en =>
                intro tm W hR hsz hk
                rw [Rg.fin_eq (ds := [97, 98, 99, 100, 101, 102, 103]) rfl rfl rfl hsz hk]
                have k97 : tm.getD 97 undef = .agg #[.int .u64 s.now, .int .u64 s.count, .slice Al s.links.length cl, .slice As s.sess.length cs'] := hk 97
                have k98 : tm.getD 98 undef = .agg #[.int .i64 1, .int .i64 who, .int .u64 q, str [], str [], .int .u64 0] := hk 98
                have k99 : tm.getD 99 undef = .int .i64 who := hk 99
                have k100 : tm.getD 100 undef = .int .u64 q := hk 100
                have k101 : tm.getD 101 undef = str (tx who q) := hk 101
                have k102 : tm.getD 102 undef = .agg #[.int .i64 0, str (tx who q)] := hk 102
                have k103 : (fun v W => ∃ cs : List Value, v = .agg cs.toArray ∧ stE.rep W (RX g1) cs (keep s who q ⟨0, tx who q⟩)) (tm.getD 103 undef) W := hk 103
                clear hk hsz
                simp only [Rg.putAll, List.setIfInBounds_toArray, List.set_cons_zero, List.set_cons_succ, k97, k98, k99, k100, k101, k102]
                clear k97
                clear k98
                clear k99
                clear k100
                clear k101
                clear k102
                generalize tm.getD 103 undef = u103 at *
                obtain ⟨cs3, rfl, hrep⟩ := k103
                have HSTEP := hide (hR2.inv.step q0 HSF.out)
                have HLEN : Hid ((keep s who q ⟨0, tx who q⟩).sess.length ≤ k + 1 ∧ (keep s who q ⟨0, tx who q⟩).links = []) := ⟨Nat.le_trans (swith_len _ _) (Nat.succ_le_succ hR2.len), hR2.links⟩
                obtain ⟨K, hK⟩ : ∃ K, keep s who q ⟨0, tx who q⟩ = K := ⟨_, rfl⟩
                rw [hK] at hrep HSTEP HLEN
                clear hK
                obtain ⟨Al3, cl3, As3, cs3', rfl, -, -, -, -⟩ := st_open hrep
                have hR3 := hR2.to hR
                have s0 := (hR3.bs.cell 0).trans rfl
                have s1 := (hR3.bs.cell 1).trans rfl
                have s2 := (hR3.bs.cell 2).trans rfl
                have s3 := (hR3.bs.cell 3).trans rfl
                have f0 := hR3.bs.frozen 0
                have f1 := hR3.bs.frozen 1
                have f2 := hR3.bs.frozen 2
                have f3 := hR3.bs.frozen 3
                obtain ⟨hB4, hC4⟩ := put4 hR3.bs (.int .u64 K.now) (.int .u64 K.count) (.slice Al3 K.links.length cl3) (.slice As3 K.sess.length cs3')
                go_wp2_with fail
                generalize ((((W.setCell ⟨g1, 0, none⟩ (.int .u64 K.now)).setCell ⟨g1, 1, none⟩ (.int .u64 K.count)).setCell ⟨g1, 2, none⟩ (.slice Al3 K.links.length cl3)).setCell ⟨g1, 3, none⟩ (.slice As3 K.sess.length cs3')) = W5 at *
                clear s0 s1 s2 s3 f0 f1 f2 f3
                have hh5 := hR3.bh.chg hC4 (by simp)
                have hd5 := hR3.bd.chg hC4 (by simp; omega)
                have hc1 := (hh5.cell who.toNat).trans (hcells_at hi w0 w4)
                have hz1 := hh5.frozen who.toNat
                have hc2 := (hd5.cell (who.toNat * 64 + q.toNat)).trans (hR3.dna.at_ who q w0 w4 (by omega) (by omega))
                have hz2 := hd5.frozen (who.toNat * 64 + q.toNat)
                by_cases hmx : q ≤ hi who
                · have hmx2 : ¬ hi who < q := by omega
                  have HM : Hid (max (hi who) q = hi who) := by unfold Hid; omega
                  have HNX := hide (hR3.next hB4 hC4 hrep HLEN.out HSTEP.out HM.out w0 w4 q0 q4)
                  go_region
                  go_wp2
                  go_roundw
                  case rel => exact ⟨k + 1, K, _, _, _, _, by omega, by go_num, HNX.out⟩
                  case measure => simp [intOf]; omega
                · have hmx2 : hi who < q := by omega
                  have HM : Hid (max (hi who) q = q) := by unfold Hid; omega
                  have HNX := hide (hR3.next hB4 hC4 hrep HLEN.out HSTEP.out HM.out w0 w4 q0 q4)
                  go_region
                  go_wp2
                  go_roundw
                  case rel => exact ⟨k + 1, K, _, _, _, _, by omega, by go_num, HNX.out⟩
                  case measure => simp [intOf]; omega
            · have hR2 := hR1.to ((Ext.rfl' W1).alloc' (.cells (acells ⟨0, []⟩).toArray 31))
              have e0 := (hR2.bh.cell who.toNat).trans (hcells_at hi w0 w4)
              have e1 := (hR2.bd.cell (who.toNat * 64 + q.toNat)).trans (hR2.dna.at_ who q w0 w4 (by omega) (by omega))
              have hdn : dn who q = false := by simpa using hdq
              rw [hdn] at e1
              have hCC := (hC.ext hx1).ext ((Ext.rfl' W1).alloc' (.cells (acells ⟨0, []⟩).toArray 31))
              have HSF := hide hsf
              clear hsf
              obtain ⟨gC, hgC⟩ : ∃ g, wd.heap.size = g := ⟨_, rfl⟩
              rw [hgC] at hCC
              go_wp2_with fail
              generalize (W1.alloc (.cells (acells ⟨0, []⟩).toArray 31)) = w3 at *
              have hBS := hR2.bs
              have HKEEP := hide (fun W (hW : Ext w3 W) => KX.skeepX_b (RX g1) s _ (cmQ 1 who q) ⟨0, tx who q⟩ W (fun k hk => Nat.lt_of_lt_of_le (RX_lt hR2 hk) hW.size) (stE.ext hR2.rep hW) (cmQ_wide ⟨by omega, by omega⟩ ⟨by omega, by omega⟩ ⟨by omega, by omega⟩) ⟨by constructor <;> simp, by simp [tx, maxLen]⟩ hR2.inv.rise (by have := hR2.len; omega) (by rw [hR2.links]; simp) (fun x hx => ⟨(hR2.inv.win x hx).1, by have := (hR2.inv.win x hx).len; omega⟩))
              try clear e0 e1
              refine Rg.regionT Try.checked.mixed 130 7 (by kernel_rfl) [
                (fun x_ _ => x_ = .agg #[.int .u64 s.now, .int .u64 s.count, .slice Al s.links.length cl, .slice As s.sess.length cs']),
                (fun x_ _ => x_ = .agg #[.int .i64 1, .int .i64 who, .int .u64 q, str [], str [], .int .u64 0]),
                (fun x_ _ => x_ = .int .i64 who),
                (fun x_ _ => x_ = .int .u64 q),
                (fun x_ _ => x_ = str (tx who q)),
                (fun x_ _ => x_ = .agg #[.int .i64 0, str (tx who q)]),
                (fun v W => ∃ cs : List Value, v = .agg cs.toArray ∧ stE.rep W (RX g1) cs (keep s who q ⟨0, tx who q⟩))] (fun W => Ext w3 W) Ext rfl rfl rfl
                ?st ((Ext.rfl' w3).drew') ?ob ?en
              case st => exact ⟨fun _ _ _ h _ => h, fun _ _ _ h _ => h, fun _ _ _ h _ => h, fun _ _ _ h _ => h, fun _ _ _ h _ => h, fun _ _ _ h _ => h, fun _ _ _ h hx => ⟨h.choose, h.choose_spec.1, stE.ext h.choose_spec.2 hx⟩, trivial⟩
              case ob =>
                refine ⟨Rg.at_run [3] rfl ?_, ?_⟩
                · intro ρ W hR ⟨q3, _⟩
                  replace q3 : ρ 3 = .pointer (some ⟨g1, 0, none⟩) := q3
                  refine ⟨rfl, ?_⟩
                  have c0_ : W.cell? ⟨g1, 0, none⟩ = some (.int .u64 s.now) := ((hBS.ext hR).cell 0).trans rfl
                  have c1_ : W.cell? ⟨g1, 1, none⟩ = some (.int .u64 s.count) := ((hBS.ext hR).cell 1).trans rfl
                  have c2_ : W.cell? ⟨g1, 2, none⟩ = some (.slice Al s.links.length cl) := ((hBS.ext hR).cell 2).trans rfl
                  have c3_ : W.cell? ⟨g1, 3, none⟩ = some (.slice As s.sess.length cs') := ((hBS.ext hR).cell 3).trans rfl
                  exact Rg.run_ok (v := .agg #[.int .u64 s.now, .int .u64 s.count, .slice Al s.links.length cl, .slice As s.sess.length cs']) (by simp [execOp, Rg.ev, go_sem, q3, c0_, c1_, c2_, c3_]) ⟨rfl, hR, Ext.rfl' _⟩
                refine ⟨Rg.at_run [9] rfl ?_, ?_⟩
                · intro ρ W hR ⟨q9, _⟩
                  replace q9 : ρ 9 = .pointer (some ⟨gC, 0, none⟩) := q9
                  refine ⟨rfl, ?_⟩
                  have c0_ : W.cell? ⟨gC, 0, none⟩ = some (.int .i64 1) := ((hCC.ext hR).cell 0).trans rfl
                  have c1_ : W.cell? ⟨gC, 1, none⟩ = some (.int .i64 who) := ((hCC.ext hR).cell 1).trans rfl
                  have c2_ : W.cell? ⟨gC, 2, none⟩ = some (.int .u64 q) := ((hCC.ext hR).cell 2).trans rfl
                  have c3_ : W.cell? ⟨gC, 3, none⟩ = some (str []) := ((hCC.ext hR).cell 3).trans rfl
                  have c4_ : W.cell? ⟨gC, 4, none⟩ = some (str []) := ((hCC.ext hR).cell 4).trans rfl
                  have c5_ : W.cell? ⟨gC, 5, none⟩ = some (.int .u64 0) := ((hCC.ext hR).cell 5).trans rfl
                  exact Rg.run_ok (v := .agg #[.int .i64 1, .int .i64 who, .int .u64 q, str [], str [], .int .u64 0]) (by simp [execOp, Rg.ev, go_sem, q9, c0_, c1_, c2_, c3_, c4_, c5_]) ⟨rfl, hR, Ext.rfl' _⟩
                refine ⟨Rg.at_run [7] rfl ?_, ?_⟩
                · intro ρ W hR ⟨q7, _⟩
                  replace q7 : ρ 7 = .int .i64 who := q7
                  refine ⟨rfl, ?_⟩
                  exact Rg.run_ok (v := .int .i64 who) (by simp [execOp, Rg.ev, go_sem, q7]) ⟨rfl, hR, Ext.rfl' _⟩
                refine ⟨Rg.at_run [8] rfl ?_, ?_⟩
                · intro ρ W hR ⟨q8, _⟩
                  replace q8 : ρ 8 = .int .u64 q := q8
                  refine ⟨rfl, ?_⟩
                  exact Rg.run_ok (v := .int .u64 q) (by simp [execOp, Rg.ev, go_sem, q8]) ⟨rfl, hR, Ext.rfl' _⟩
                refine ⟨Rg.at_run [99, 100] rfl ?_, ?_⟩
                · intro ρ W hR ⟨q99, q100, _⟩
                  replace q99 : ρ 99 = .int .i64 who := q99
                  replace q100 : ρ 100 = .int .u64 q := q100
                  refine ⟨rfl, ?_⟩
                  refine Rg.run_enter (by simp [execOp, Rg.ev, go_sem, q99, q100]; exact ⟨⟨rfl, rfl⟩, rfl⟩) ?_
                  refine (text19_b who q W w0 w4 q0 q4).mono ?_
                  rintro e_ w2 ⟨rfl, hxx⟩
                  exact ⟨_, rfl, rfl, hR.trans' hxx, hxx⟩
                refine ⟨Rg.at_run [101] rfl ?_, ?_⟩
                · intro ρ W hR ⟨q101, _⟩
                  replace q101 : ρ 101 = str (tx who q) := q101
                  refine ⟨rfl, ?_⟩
                  exact Rg.run_ok (v := .agg #[.int .i64 0, str (tx who q)]) (by simp [execOp, Rg.ev, go_sem, q101]) ⟨rfl, hR, Ext.rfl' _⟩
                refine ⟨Rg.at_run [97, 98, 102] rfl ?_, ?_⟩
                · intro ρ W hR ⟨q97, q98, q102, _⟩
                  replace q97 : ρ 97 = .agg #[.int .u64 s.now, .int .u64 s.count, .slice Al s.links.length cl, .slice As s.sess.length cs'] := q97
                  replace q98 : ρ 98 = .agg #[.int .i64 1, .int .i64 who, .int .u64 q, str [], str [], .int .u64 0] := q98
                  replace q102 : ρ 102 = .agg #[.int .i64 0, str (tx who q)] := q102
                  refine ⟨rfl, ?_⟩
                  refine Rg.run_enter (by simp [execOp, Rg.ev, go_sem, q97, q98, q102]; exact ⟨⟨rfl, rfl⟩, rfl⟩) ?_
                  refine (HKEEP.out W hR).mono ?_
                  rintro e_ w2 ⟨cs3, rfl, hrep, hxx⟩
                  exact ⟨_, rfl, ⟨cs3, rfl, hrep⟩, hR.trans' hxx, hxx⟩
                trivial
              case en =>
                intro tm W hR hsz hk
                rw [Rg.fin_eq (ds := [97, 98, 99, 100, 101, 102, 103]) rfl rfl rfl hsz hk]
                have k97 : tm.getD 97 undef = .agg #[.int .u64 s.now, .int .u64 s.count, .slice Al s.links.length cl, .slice As s.sess.length cs'] := hk 97
                have k98 : tm.getD 98 undef = .agg #[.int .i64 1, .int .i64 who, .int .u64 q, str [], str [], .int .u64 0] := hk 98
                have k99 : tm.getD 99 undef = .int .i64 who := hk 99
                have k100 : tm.getD 100 undef = .int .u64 q := hk 100
                have k101 : tm.getD 101 undef = str (tx who q) := hk 101
                have k102 : tm.getD 102 undef = .agg #[.int .i64 0, str (tx who q)] := hk 102
                have k103 : (fun v W => ∃ cs : List Value, v = .agg cs.toArray ∧ stE.rep W (RX g1) cs (keep s who q ⟨0, tx who q⟩)) (tm.getD 103 undef) W := hk 103
                clear hk hsz
                simp only [Rg.putAll, List.setIfInBounds_toArray, List.set_cons_zero, List.set_cons_succ, k97, k98, k99, k100, k101, k102]
                clear k97
                clear k98
                clear k99
                clear k100
                clear k101
                clear k102
                generalize tm.getD 103 undef = u103 at *
                obtain ⟨cs3, rfl, hrep⟩ := k103
                have HSTEP := hide (hR2.inv.step q0 HSF.out)
                have HLEN : Hid ((keep s who q ⟨0, tx who q⟩).sess.length ≤ k + 1 ∧ (keep s who q ⟨0, tx who q⟩).links = []) := ⟨Nat.le_trans (swith_len _ _) (Nat.succ_le_succ hR2.len), hR2.links⟩
                obtain ⟨K, hK⟩ : ∃ K, keep s who q ⟨0, tx who q⟩ = K := ⟨_, rfl⟩
                rw [hK] at hrep HSTEP HLEN
                clear hK
                obtain ⟨Al3, cl3, As3, cs3', rfl, -, -, -, -⟩ := st_open hrep
                have hR3 := hR2.to hR
                have s0 := (hR3.bs.cell 0).trans rfl
                have s1 := (hR3.bs.cell 1).trans rfl
                have s2 := (hR3.bs.cell 2).trans rfl
                have s3 := (hR3.bs.cell 3).trans rfl
                have f0 := hR3.bs.frozen 0
                have f1 := hR3.bs.frozen 1
                have f2 := hR3.bs.frozen 2
                have f3 := hR3.bs.frozen 3
                obtain ⟨hB4, hC4⟩ := put4 hR3.bs (.int .u64 K.now) (.int .u64 K.count) (.slice Al3 K.links.length cl3) (.slice As3 K.sess.length cs3')
                go_wp2_with fail
                generalize ((((W.setCell ⟨g1, 0, none⟩ (.int .u64 K.now)).setCell ⟨g1, 1, none⟩ (.int .u64 K.count)).setCell ⟨g1, 2, none⟩ (.slice Al3 K.links.length cl3)).setCell ⟨g1, 3, none⟩ (.slice As3 K.sess.length cs3')) = W5 at *
                clear s0 s1 s2 s3 f0 f1 f2 f3
                have hh5 := hR3.bh.chg hC4 (by simp)
                have hd5 := hR3.bd.chg hC4 (by simp; omega)
                have hc1 := (hh5.cell who.toNat).trans (hcells_at hi w0 w4)
                have hz1 := hh5.frozen who.toNat
                have hc2 := (hd5.cell (who.toNat * 64 + q.toNat)).trans (hR3.dna.at_ who q w0 w4 (by omega) (by omega))
                have hz2 := hd5.frozen (who.toNat * 64 + q.toNat)
                by_cases hmx : q ≤ hi who
                · have hmx2 : ¬ hi who < q := by omega
                  have HM : Hid (max (hi who) q = hi who) := by unfold Hid; omega
                  have HNX := hide (hR3.next hB4 hC4 hrep HLEN.out HSTEP.out HM.out w0 w4 q0 q4)
                  go_region
                  go_wp2
                  go_roundw
                  case rel => exact ⟨k + 1, K, _, _, _, _, by omega, by go_num, HNX.out⟩
                  case measure => simp [intOf]; omega
                · have hmx2 : hi who < q := by omega
                  have HM : Hid (max (hi who) q = q) := by unfold Hid; omega
                  have HNX := hide (hR3.next hB4 hC4 hrep HLEN.out HSTEP.out HM.out w0 w4 q0 q4)
                  go_region
                  go_wp2
                  go_roundw
                  case rel => exact ⟨k + 1, K, _, _, _, _, by omega, by go_num, HNX.out⟩
                  case measure => simp [intOf]; omega
      · have hkl : ¬ (k : Int) < l.length := hlt
        obtain ⟨Al, cl, As, cs', hcs, -, -, hls, hss⟩ := st_open hR.rep
        subst hcs
        have hB := hR.bs
        have b3 := (hB.cell 3).trans rfl
        go_wp2_with fail
        go_loopw [13] (fun i W2 => ∃ j : Nat, (j : Int) ≤ s.sess.length ∧ i = .int .i64 j ∧ Ext wr W2) (fun i _ => (s.sess.length - intOf i).toNat)
        case atStart => exact ⟨0, by omega, rfl, Ext.rfl' _⟩
        case round =>
          obtain ⟨j, hj, rfl, hxj⟩ := hrel
          have b3j := ((hB.ext hxj).cell 3).trans rfl
          by_cases hjl : (j : Int) < s.sess.length
          · obtain ⟨ad, d, v, rfl, hds, hbk, p0, p1, p2, p3, p4, p5⟩ := se_at (hss.ext hxj) (k := j) (by omega)
            have hd4 := (hR.inv.win d (List.mem_of_getElem? hds.out)).len
            obtain ⟨Ad, cd, rfl, -, -⟩ := p5.form
            have hd5 : ¬ (4 : Int) < d.done.length := by omega
            have HJL := hide hjl
            have hsl : s.sess.length ≤ k := hR.len
            go_wp2
            go_roundw
            case rel => exact ⟨j + 1, by have := HJL.out; omega, by go_num, hxj⟩
            case measure => have := HJL.out; simp [intOf]; omega
          · go_wp2
            go_ret
            exact ⟨rfl, hR.ext.trans' hxj⟩
end Go.Proofs.Ythlbnajecfjmdaa
