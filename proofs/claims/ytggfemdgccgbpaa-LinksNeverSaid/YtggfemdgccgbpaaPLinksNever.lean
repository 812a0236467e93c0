import Derived.Test.YtggfemdgccgbpaaPk36
import Derived.Test.YtggfemdgccgbpaaPk1
/- LinksNever, in plain Lean. -/
namespace Go.Proofs.Ytggfemdgccgbpaa
set_option linter.unusedVariables false
set_option linter.unusedSimpArgs false
set_option linter.unnecessarySimpa false
set_option maxRecDepth 100000
open Go.RowKit
/-- the last name that was made -/
def lastN (k : Int) : Bytes := if k = 0 then [] else code3 (k.toNat - 1)
theorem lastN_next {k : Int} (h : 0 ≤ k) : lastN (k + 1) = code3 k.toNat := by
  unfold lastN
  rw [if_neg (by omega), show (k + 1).toNat - 1 = k.toNat by omega]
theorem lastN_less {k : Int} (h0 : 0 ≤ k) (h1 : k < 238328) : Op.bytesLess (lastN k) (code3 k.toNat) = true := by
  unfold lastN
  split
  · rw [bytesLess_eq]
    simp [code3]
  · rw [less_code3 _ _ (by omega) (by omega)]
    simp
    omega
theorem lastN_ne {k : Int} (h0 : 0 ≤ k) (h1 : k < 238328) : code3 k.toNat ≠ lastN k := fun h => by
  have := lastN_less h0 h1
  rw [← h, bl_irr] at this
  cases this
theorem never_law (s : St) (c : Cm) : (ldo s c).1.count = s.count ∨ ((ldo s c).1.count = s.count + 1 ∧ c.kind = 1 ∧ (ldo s c).2 = ⟨0, code3 s.count.toNat⟩ ∧ s.count < 238328) := by
  unfold ldo ldoW
  split
  · left; unfold ltime; split <;> rfl
  · split
    · rename_i hk
      unfold lmakeW
      split
      · exact .inl rfl
      · split
        · exact .inl rfl
        · split
          · exact .inl rfl
          · exact .inr ⟨rfl, hk, rfl, by omega⟩
    · left
      split
      · unfold lnameW; repeat' split
        all_goals rfl
      · split
        · unfold lfindW; split <;> rfl
        · rfl
end Go.Proofs.Ytggfemdgccgbpaa

/- LinksNever. -/
namespace Go.Proofs.Ytggfemdgccgbpaa
set_option linter.unusedVariables false
set_option linter.unusedSimpArgs false
set_option linter.unnecessarySimpa false
set_option maxRecDepth 100000
open Go.RowKit
abbrev XN (g1 gw ga : Nat) : Avoid := fun j => j = g1 ∨ j = gw ∨ j = ga
set_option maxHeartbeats 12800000 in
theorem linksNever_walk (x : Value) (b : Bytes) (w : World) (hx : Bs w x b) :
    Calls Try.prog 4 #[x] w fun e w' => e = .returned (.bool true) ∧ Ext w w' := by
  obtain ⟨Ax, cx, rfl, -, -, -⟩ := id hx
  go_enter Try.func4, Try.ntmps4
  go_wp2_with fail
  refine (begun18_b w).mono ?_
  rintro e w1 ⟨rfl, hx1⟩
  by_cases h1 : (120 : Int) < b.length
  · go_wp2_with fail
    go_ret
    exact ⟨rfl, hx1⟩
  have HB := hide h1
  obtain ⟨g1, hg⟩ : ∃ g_, w1.heap.size = g_ := ⟨_, rfl⟩
  have hS := Blk.new w1 28 #[.int .u64 0, .int .u64 0, .slice none 0 0, .slice none 0 0]
  rw [hg] at hS
  have hx2 : Ext w (w1.alloc (.cells #[.int .u64 0, .int .u64 0, .slice none 0 0, .slice none 0 0] 28)) := hx1.alloc' _
  have hw1 : w.heap.size ≤ g1 := by have := hx1.size; omega
  go_upto_region 6 with fail
  try rw [hg]
  clear hg
  generalize (w1.alloc (.cells #[.int .u64 0, .int .u64 0, .slice none 0 0, .slice none 0 0] 28)) = w2 at *
  go_wp2_with fail
  refine (cmds_b _ b 30 _ (hx.ext hx2) (by have := HB.out; omega) (by omega)).mono ?_
  rintro e w0 ⟨l, A, c, hpc, hlen, rfl, hown, hx3⟩
  replace hS := hS.ext hx3
  go_wp2_with fail
  go_loopw [4, 6] (fun mk i wr => ∃ (k : Nat) (s : St) (At : Option Addr) (ct : Nat) (Au : Option Addr) (cu : Nat), k ≤ l.length ∧ mk = str (lastN s.count) ∧ i = .int .i64 k ∧ Blk wr g1 28 #[.int .u64 s.now, .int .u64 s.count, .slice At s.links.length ct, .slice Au s.sess.length cu] ∧
      stE.rep wr (fun j => j = g1) [.int .u64 s.now, .int .u64 s.count, .slice At s.links.length ct, .slice Au s.sess.length cu] s ∧ LInv s ∧ s.sess = [] ∧ Own 37 cmE w2 wr noneAt (.slice A l.length c) l ∧ Ext w wr) (fun _ i _ => (l.length - intOf i).toNat)
  case atStart => exact ⟨0, ⟨0, 0, [], []⟩, none, 0, none, 0, by omega, rfl, rfl, hS, stN_rep _ _, linv0, rfl, hown, hx2.trans' hx3⟩
  case round =>
    clear hS
    obtain ⟨k, s, At, ct, Au, cu, hkl, rfl, rfl, hS, hrep, hi, hse, hown, hxr⟩ := hrel
    by_cases hlt : k < l.length
    · have hN := never_law s
      obtain ⟨gw, hg⟩ : ∃ g_, wr.heap.size = g_ := ⟨_, rfl⟩
      obtain ⟨hW, hA, hz⟩ := two_al wr 28 33 #[.int .u64 s.now, .int .u64 s.count, .slice At s.links.length ct, .slice Au s.sess.length cu] (acells ⟨0, []⟩).toArray
      rw [hg] at hW hA
      obtain ⟨ga, hga⟩ : ∃ g_, gw + 1 = g_ := ⟨_, rfl⟩
      rw [hga] at hA
      have o1 : g1 < gw := by have := hS.lt; omega
      have o2 : w.heap.size ≤ gw := by have := hxr.size; omega
      have n1 : ¬ g1 = ga := by omega
      have n2 : ¬ ga = g1 := by omega
      have n3 : ¬ g1 = gw := by omega
      have n4 : ¬ gw = g1 := by omega
      have n5 : ¬ gw = ga := by omega
      have n6 : ¬ ga = gw := by omega
      have HSE := hide hse
      clear hse
      have s0 := (hS.cell 0).trans rfl
      have s1 := (hS.cell 1).trans rfl
      have s2 := (hS.cell 2).trans rfl
      have s3 := (hS.cell 3).trans rfl
      replace hS := hS.ext hz
      replace hrep := stE.ext (stE.mono hrep (Y := XN g1 gw ga) (fun j hj h => by rcases h with h | h | h <;> omega)) hz
      replace hown := hown.ext hz
      replace hxr := hxr.trans' hz
      go_upto_region 13 with fail
      try rw [hg]
      try rw [hga]
      clear hz hg s0 s1 s2 s3
      generalize ((wr.alloc (.cells #[.int .u64 s.now, .int .u64 s.count, .slice At s.links.length ct, .slice Au s.sess.length cu] 28)).alloc (.cells (acells ⟨0, []⟩).toArray 33)) = w3 at *
      obtain ⟨ad, m, rfl, hm, hbk, p0, p1, p2, p3, p4, p5, hmw⟩ := cm_at hown.sl hlt
      have hpm := hpc m (List.mem_of_getElem? hm.out)
      have hXg : ∀ k, XN g1 gw ga k → k < w3.heap.size := fun k hk => hk.elim (fun h => h ▸ hS.lt) fun h => h.elim (fun h => h ▸ hW.lt) fun h => h ▸ hA.lt
      have HD := hide (fun W (hx : Ext w3 W) => ldoL_b (XN g1 gw ga) s _ m W (fun k hk => Nat.lt_of_lt_of_le (hXg k hk) hx.size) (stE.ext hrep hx) hi HSE.out hmw (Nat.le_trans hpm.url (by decide)) (Nat.le_trans hpm.name (by decide)))
      have hi1 := hi.step (c := m) hpm.t0
      have hse1 := (ldo_sess s m).trans HSE.out
      replace hN := hN m
      obtain ⟨⟨t, a⟩, hta⟩ : ∃ r, ldo s m = r := ⟨_, rfl⟩
      rw [hta] at HD hi1 hse1 hN
      simp only at hi1 hse1 hN
      clear hta
      have hb1 : (0 : Int) ≤ k := by omega
      have hb2 : (k : Int) < l.length := by omega
      have HLT := hide hlt
      have HS1 := hide hse1
      have HI1 := hide hi1
      have HI := hide hi
      have HN := hide hN
      clear hse1 hi1 hi hN hlt
      go_wp2
      refine Rg.regionX Try.checked.mixed 75 9 8 33 _ _ (by rfl) (by rfl) (by kernel_rfl) [
        (fun x_ _ => x_ = .agg #[.int .u64 s.now, .int .u64 s.count, .slice At s.links.length ct, .slice Au s.sess.length cu]),
        (fun x_ _ => x_ = .slice (some ad) l.length c),
        (fun x_ _ => x_ = .int .i64 k),
        (fun x_ _ => x_ = .pointer (some (ad.add (k * 6)))),
        (fun x_ _ => x_ = .agg #[.int .i64 m.kind, .int .i64 m.client, .int .u64 m.seq, str m.name, str m.url, .int .u64 m.till]),
        (fun v W => ∃ A1 c1 A2 c2, v = .tuple #[.agg #[.int .u64 t.now, .int .u64 t.count, .slice A1 t.links.length c1, .slice A2 t.sess.length c2], .agg #[.int .i64 a.err, str a.text]] ∧ stE.rep W (XN g1 gw ga) [.int .u64 t.now, .int .u64 t.count, .slice A1 t.links.length c1, .slice A2 t.sess.length c2] t),
        (fun v W => ∃ A1 c1 A2 c2, v = .tuple #[.agg #[.int .u64 t.now, .int .u64 t.count, .slice A1 t.links.length c1, .slice A2 t.sess.length c2], .agg #[.int .i64 a.err, str a.text]] ∧ stE.rep W (XN g1 gw ga) [.int .u64 t.now, .int .u64 t.count, .slice A1 t.links.length c1, .slice A2 t.sess.length c2] t),
        (fun v W => ∃ A1 c1 A2 c2, v = .agg #[.int .u64 t.now, .int .u64 t.count, .slice A1 t.links.length c1, .slice A2 t.sess.length c2] ∧ stE.rep W (XN g1 gw ga) [.int .u64 t.now, .int .u64 t.count, .slice A1 t.links.length c1, .slice A2 t.sess.length c2] t),
        (fun x_ _ => x_ = .agg #[.int .i64 a.err, str a.text])] (fun W => Ext w3 W) Ext rfl rfl rfl
        ?st ((Ext.rfl' w3).drew') ?ob ?en ?en2
      case st => exact ⟨fun _ _ _ h _ => h, fun _ _ _ h _ => h, fun _ _ _ h _ => h, fun _ _ _ h _ => h, fun _ _ _ h _ => h, fun _ _ _ ⟨a1_, a2_, a3_, a4_, h1_, h2_⟩ hx => ⟨a1_, a2_, a3_, a4_, h1_, stE.ext h2_ hx⟩, fun _ _ _ ⟨a1_, a2_, a3_, a4_, h1_, h2_⟩ hx => ⟨a1_, a2_, a3_, a4_, h1_, stE.ext h2_ hx⟩, fun _ _ _ ⟨a1_, a2_, a3_, a4_, h1_, h2_⟩ hx => ⟨a1_, a2_, a3_, a4_, h1_, stE.ext h2_ hx⟩, fun _ _ _ h _ => h, trivial⟩
      case ob =>
        refine ⟨Rg.at_run [3] rfl ?_, ?_⟩
        · intro ρ W hR ⟨q3, _⟩
          replace q3 : ρ 3 = .pointer (some ⟨g1, 0, none⟩) := q3
          refine ⟨rfl, ?_⟩
          have c0_ : W.cell? ⟨g1, 0, none⟩ = some (.int .u64 s.now) := ((hS.ext hR).cell 0).trans rfl
          have c1_ : W.cell? ⟨g1, 1, none⟩ = some (.int .u64 s.count) := ((hS.ext hR).cell 1).trans rfl
          have c2_ : W.cell? ⟨g1, 2, none⟩ = some (.slice At s.links.length ct) := ((hS.ext hR).cell 2).trans rfl
          have c3_ : W.cell? ⟨g1, 3, none⟩ = some (.slice Au s.sess.length cu) := ((hS.ext hR).cell 3).trans rfl
          exact Rg.run_ok (v := .agg #[.int .u64 s.now, .int .u64 s.count, .slice At s.links.length ct, .slice Au s.sess.length cu]) (by simp [execOp, Rg.ev, go_sem, q3, c0_, c1_, c2_, c3_]) ⟨rfl, hR, Ext.rfl' _⟩
        refine ⟨Rg.at_run [5] rfl ?_, ?_⟩
        · intro ρ W hR ⟨q5, _⟩
          replace q5 : ρ 5 = .slice (some ad) l.length c := q5
          refine ⟨rfl, ?_⟩
          exact Rg.run_ok (v := .slice (some ad) l.length c) (by simp [execOp, Rg.ev, go_sem, q5]) ⟨rfl, hR, Ext.rfl' _⟩
        refine ⟨Rg.at_run [6] rfl ?_, ?_⟩
        · intro ρ W hR ⟨q6, _⟩
          replace q6 : ρ 6 = .int .i64 k := q6
          refine ⟨rfl, ?_⟩
          exact Rg.run_ok (v := .int .i64 k) (by simp [execOp, Rg.ev, go_sem, q6]) ⟨rfl, hR, Ext.rfl' _⟩
        refine ⟨Rg.at_run [27, 28] rfl ?_, ?_⟩
        · intro ρ W hR ⟨q27, q28, _⟩
          replace q27 : ρ 27 = .slice (some ad) l.length c := q27
          replace q28 : ρ 28 = .int .i64 k := q28
          refine ⟨rfl, ?_⟩
          exact Rg.run_ok (v := .pointer (some (ad.add (k * 6)))) (by simp [execOp, Rg.ev, go_sem, q27, q28, hb1, hb2]) ⟨rfl, hR, Ext.rfl' _⟩
        refine ⟨Rg.at_run [29] rfl ?_, ?_⟩
        · intro ρ W hR ⟨q29, _⟩
          replace q29 : ρ 29 = .pointer (some (ad.add (k * 6))) := q29
          refine ⟨rfl, ?_⟩
          have hab_ : (ad.add (k * 6)).block < w3.heap.size := by rw [block_of_add]; exact hbk
          have c0_ : W.cell? (ad.add (k * 6)) = some (.int .i64 m.kind) := (hR.cell (p := (ad.add (k * 6))) hab_).trans p0
          have c1_ : W.cell? ⟨(ad.add (k * 6)).block, (ad.add (k * 6)).off + 1, none⟩ = some (.int .i64 m.client) := (hR.cell (p := ⟨(ad.add (k * 6)).block, (ad.add (k * 6)).off + 1, none⟩) hab_).trans p1
          have c2_ : W.cell? ⟨(ad.add (k * 6)).block, (ad.add (k * 6)).off + 2, none⟩ = some (.int .u64 m.seq) := (hR.cell (p := ⟨(ad.add (k * 6)).block, (ad.add (k * 6)).off + 2, none⟩) hab_).trans p2
          have c3_ : W.cell? ⟨(ad.add (k * 6)).block, (ad.add (k * 6)).off + 3, none⟩ = some (str m.name) := (hR.cell (p := ⟨(ad.add (k * 6)).block, (ad.add (k * 6)).off + 3, none⟩) hab_).trans p3
          have c4_ : W.cell? ⟨(ad.add (k * 6)).block, (ad.add (k * 6)).off + 4, none⟩ = some (str m.url) := (hR.cell (p := ⟨(ad.add (k * 6)).block, (ad.add (k * 6)).off + 4, none⟩) hab_).trans p4
          have c5_ : W.cell? ⟨(ad.add (k * 6)).block, (ad.add (k * 6)).off + 5, none⟩ = some (.int .u64 m.till) := (hR.cell (p := ⟨(ad.add (k * 6)).block, (ad.add (k * 6)).off + 5, none⟩) hab_).trans p5
          exact Rg.run_ok (v := .agg #[.int .i64 m.kind, .int .i64 m.client, .int .u64 m.seq, str m.name, str m.url, .int .u64 m.till]) (by simp [execOp, Rg.ev, go_sem, q29, c0_, c1_, c2_, c3_, c4_, c5_]) ⟨rfl, hR, Ext.rfl' _⟩
        refine ⟨Rg.at_run [26, 30] rfl ?_, ?_⟩
        · intro ρ W hR ⟨q26, q30, _⟩
          replace q26 : ρ 26 = .agg #[.int .u64 s.now, .int .u64 s.count, .slice At s.links.length ct, .slice Au s.sess.length cu] := q26
          replace q30 : ρ 30 = .agg #[.int .i64 m.kind, .int .i64 m.client, .int .u64 m.seq, str m.name, str m.url, .int .u64 m.till] := q30
          refine ⟨rfl, ?_⟩
          refine Rg.enter_fn (args := #[.agg #[.int .u64 s.now, .int .u64 s.count, .slice At s.links.length ct, .slice Au s.sess.length cu], .agg #[.int .i64 m.kind, .int .i64 m.client, .int .u64 m.seq, str m.name, str m.url, .int .u64 m.till]]) rfl (by simp only [List.map_toArray, List.map_cons, List.map_nil, Rg.ev, q26, q30]) (by kernel_rfl) ?_
          refine (HD.out W hR).mono ?_
          rintro e_ w9 ⟨t_, a_, A1, c1, A2, c2, h1_, rfl, h2_, hxx⟩
          obtain ⟨rfl, rfl⟩ := Prod.mk.inj h1_.out
          exact ⟨_, rfl, ⟨A1, c1, A2, c2, rfl, h2_⟩, hR.trans' hxx, hxx⟩
        refine ⟨Rg.at_run [31] rfl ?_, ?_⟩
        · intro ρ W hR ⟨q31, _⟩
          replace q31 : (fun v W => ∃ A1 c1 A2 c2, v = .tuple #[.agg #[.int .u64 t.now, .int .u64 t.count, .slice A1 t.links.length c1, .slice A2 t.sess.length c2], .agg #[.int .i64 a.err, str a.text]] ∧ stE.rep W (XN g1 gw ga) [.int .u64 t.now, .int .u64 t.count, .slice A1 t.links.length c1, .slice A2 t.sess.length c2] t) (ρ 31) W := q31
          refine ⟨rfl, ?_⟩
          exact Rg.run_ok (by simp [execOp, Rg.ev, go_sem] <;> rfl) ⟨q31, hR, Ext.rfl' _⟩
        refine ⟨Rg.at_run [25] rfl ?_, ?_⟩
        · intro ρ W hR ⟨q25, _⟩
          replace q25 : (fun v W => ∃ A1 c1 A2 c2, v = .tuple #[.agg #[.int .u64 t.now, .int .u64 t.count, .slice A1 t.links.length c1, .slice A2 t.sess.length c2], .agg #[.int .i64 a.err, str a.text]] ∧ stE.rep W (XN g1 gw ga) [.int .u64 t.now, .int .u64 t.count, .slice A1 t.links.length c1, .slice A2 t.sess.length c2] t) (ρ 25) W := q25
          refine ⟨rfl, ?_⟩
          obtain ⟨A1, c1, A2, c2, hv_, hr_⟩ := q25
          exact Rg.run_ok (v := .agg #[.int .u64 t.now, .int .u64 t.count, .slice A1 t.links.length c1, .slice A2 t.sess.length c2]) (by simp [execOp, Rg.ev, go_sem, hv_]) ⟨⟨A1, c1, A2, c2, rfl, hr_⟩, hR, Ext.rfl' _⟩
        refine ⟨Rg.at_run [25] rfl ?_, ?_⟩
        · intro ρ W hR ⟨q25, _⟩
          replace q25 : (fun v W => ∃ A1 c1 A2 c2, v = .tuple #[.agg #[.int .u64 t.now, .int .u64 t.count, .slice A1 t.links.length c1, .slice A2 t.sess.length c2], .agg #[.int .i64 a.err, str a.text]] ∧ stE.rep W (XN g1 gw ga) [.int .u64 t.now, .int .u64 t.count, .slice A1 t.links.length c1, .slice A2 t.sess.length c2] t) (ρ 25) W := q25
          refine ⟨rfl, ?_⟩
          obtain ⟨A1, c1, A2, c2, hv_, hr_⟩ := q25
          exact Rg.run_ok (v := .agg #[.int .i64 a.err, str a.text]) (by simp [execOp, Rg.ev, go_sem, hv_]) ⟨rfl, hR, Ext.rfl' _⟩
        trivial
      case en =>
        intro tm W hR hsz hk
        rw [Rg.fin_eq (ds := [26, 27, 28, 29, 30, 31, 25, 32, 33]) rfl rfl rfl hsz hk]
        have k25 : (fun v W => ∃ A1 c1 A2 c2, v = .tuple #[.agg #[.int .u64 t.now, .int .u64 t.count, .slice A1 t.links.length c1, .slice A2 t.sess.length c2], .agg #[.int .i64 a.err, str a.text]] ∧ stE.rep W (XN g1 gw ga) [.int .u64 t.now, .int .u64 t.count, .slice A1 t.links.length c1, .slice A2 t.sess.length c2] t) (tm.getD 25 undef) W := hk 25
        have k26 : tm.getD 26 undef = .agg #[.int .u64 s.now, .int .u64 s.count, .slice At s.links.length ct, .slice Au s.sess.length cu] := hk 26
        have k27 : tm.getD 27 undef = .slice (some ad) l.length c := hk 27
        have k28 : tm.getD 28 undef = .int .i64 k := hk 28
        have k29 : tm.getD 29 undef = .pointer (some (ad.add (k * 6))) := hk 29
        have k30 : tm.getD 30 undef = .agg #[.int .i64 m.kind, .int .i64 m.client, .int .u64 m.seq, str m.name, str m.url, .int .u64 m.till] := hk 30
        have k31 : (fun v W => ∃ A1 c1 A2 c2, v = .tuple #[.agg #[.int .u64 t.now, .int .u64 t.count, .slice A1 t.links.length c1, .slice A2 t.sess.length c2], .agg #[.int .i64 a.err, str a.text]] ∧ stE.rep W (XN g1 gw ga) [.int .u64 t.now, .int .u64 t.count, .slice A1 t.links.length c1, .slice A2 t.sess.length c2] t) (tm.getD 31 undef) W := hk 31
        have k32 : (fun v W => ∃ A1 c1 A2 c2, v = .agg #[.int .u64 t.now, .int .u64 t.count, .slice A1 t.links.length c1, .slice A2 t.sess.length c2] ∧ stE.rep W (XN g1 gw ga) [.int .u64 t.now, .int .u64 t.count, .slice A1 t.links.length c1, .slice A2 t.sess.length c2] t) (tm.getD 32 undef) W := hk 32
        have k33 : tm.getD 33 undef = .agg #[.int .i64 a.err, str a.text] := hk 33
        clear hk hsz
        simp only [Rg.putAll, List.setIfInBounds_toArray, List.set_cons_zero, List.set_cons_succ, k26, k27, k28, k29, k30, k33]
        generalize tm.getD 25 undef = u25 at *
        clear k26
        clear k27
        clear k28
        clear k29
        clear k30
        generalize tm.getD 31 undef = u31 at *
        generalize tm.getD 32 undef = u32 at *
        clear k33
        clear k25 k31
        obtain ⟨A1, c1, A2, c2, rfl, hrep1⟩ := k32
        replace hS := hS.ext hR
        replace hW := hW.ext hR
        replace hA := hA.ext hR
        replace hown := hown.ext hR
        replace hxr := hxr.trans' hR
        have l0 := (hS.cell 0).trans rfl
        have l1 := (hS.cell 1).trans rfl
        have l2 := (hS.cell 2).trans rfl
        have l3 := (hS.cell 3).trans rfl
        have n0 := hS.frozen 0
        have n1 := hS.frozen 1
        have n2 := hS.frozen 2
        have n3 := hS.frozen 3
        have a0 := (hA.cell 0).trans rfl
        have a1 := (hA.cell 1).trans rfl
        have b0 := hA.frozen 0
        have b1 := hA.frozen 1
        have hcg : Chg [g1] W _ := (Chg.refl [g1] W).four (g := g1) (by simp) (.int .u64 t.now) (.int .u64 t.count) (.slice A1 t.links.length c1) (.slice A2 t.sess.length c2)
        have hS1 := Blk.four hS (.int .u64 t.now) (.int .u64 t.count) (.slice A1 t.links.length c1) (.slice A2 t.sess.length c2)
        have hA1 := Blk.two_ (hA.chg hcg (by simp; omega)) (.int .i64 a.err) (str a.text)
        have hc2 : Chg [ga] _ _ := (Chg.refl [ga] ((((W.setCell ⟨g1, 0, none⟩ (.int .u64 t.now)).setCell ⟨g1, 1, none⟩ (.int .u64 t.count)).setCell ⟨g1, 2, none⟩ (.slice A1 t.links.length c1)).setCell ⟨g1, 3, none⟩ (.slice A2 t.sess.length c2))).two_ (g := ga) (by simp) (.int .i64 a.err) (str a.text)
        have hS2 := hS1.chg hc2 (by simp; omega)
        have hW2 := (hW.chg hcg (by simp; omega)).chg hc2 (by simp; omega)
        have hrep2 := stE.mono (stE.chg (stE.chg hrep1 hcg (fun j hj _ => .inl (by simpa using hj))) hc2 (fun j hj _ => .inr (.inr (by simpa using hj)))) (Y := fun j => j = g1) (fun j _ h => .inl h)
        have hown2 := (hown.chgT hS (by decide) hcg (fun h => cm_any h)).chgT (hA.chg hcg (by simp; omega)) (by decide) hc2 (fun h => cm_any h)
        have hx2 := (hxr.then_ hcg (by simp; omega)).then_ hc2 (by simp; omega)
        go_upto_region 14 with fail
        try generalize (((((W.setCell ⟨g1, 0, none⟩ (.int .u64 t.now)).setCell ⟨g1, 1, none⟩ (.int .u64 t.count)).setCell ⟨g1, 2, none⟩ (.slice A1 t.links.length c1)).setCell ⟨g1, 3, none⟩ (.slice A2 t.sess.length c2)).setCell ⟨ga, 0, none⟩ (.int .i64 a.err)).setCell ⟨ga, 1, none⟩ (str a.text) = w5 at *
        clear hcg hc2 hS1 l0 l1 l2 l3 n0 n1 n2 n3 a0 a1 b0 b1 hS hA hW hrep1 hR hown hxr
        have l1 := (hS2.cell 1).trans rfl
        have m1 := (hW2.cell 1).trans rfl
        have a1 := (hA1.cell 1).trans rfl
        rcases HN.out with hc | ⟨hc, hk, ha, hlt4⟩
        · have HC := hide hc
          rw [hc] at l1
          clear hc
          go_wp2_with fail
          go_roundw
          case rel => exact ⟨k + 1, t, A1, c1, A2, c2, by have := HLT.out; omega, by rw [HC.out], by go_num, hS2, hrep2, HI1.out, HS1.out, hown2, hx2⟩
          case measure => have := HLT.out; simp [intOf]; omega
        · have HC := hide hc
          have hwr : IntKind.u64.wrap (s.count + 1) = s.count + 1 := IntWalk.u64_in _ ⟨by have := HI.out.count0; omega, by omega⟩
          have hc0 : 0 ≤ s.count := HI.out.count0
          have hc1 : ¬ s.count = s.count + 1 := by omega
          have hc2 : ¬ s.count + 1 = s.count := by omega
          obtain ⟨cn, hcn⟩ : ∃ cn, cn = code3 s.count.toNat := ⟨_, rfl⟩
          have e1 : a.err = 0 := by rw [ha]
          have e2 : a.text = cn := by rw [ha, hcn]
          have hless : Op.bytesLess (lastN s.count) cn = true := by rw [hcn]; exact lastN_less hc0 hlt4
          have hnext : Hid (lastN t.count = cn) := hide (by rw [hc, hcn]; exact lastN_next hc0)
          have HP := hide (fun W => code_at s.count cn 0 W ⟨hc0, by omega⟩ (by rw [hcn]; exact ocode_lt _ (by omega)))
          rw [hc] at l1
          rw [e2] at a1
          have HK := hide hk
          have E2 := hide e2
          clear hc ha hcn e1 e2 hk
          go_wp2_with fail
          refine (HP.out _).mono ?_
          rintro e w6 ⟨rfl, hx6⟩
          replace hS2 := hS2.ext hx6
          replace hW2 := hW2.ext hx6
          replace hA1 := hA1.ext hx6
          replace hown2 := hown2.ext hx6
          replace hrep2 := stE.ext hrep2 hx6
          replace hx2 := hx2.trans' hx6
          clear l1 m1 a1 hx6
          have l1 := (hS2.cell 1).trans rfl
          have m1 := (hW2.cell 1).trans rfl
          have a1 := (hA1.cell 1).trans rfl
          rw [HC.out] at l1
          rw [E2.out] at a1
          obtain ⟨ad', m', had, hm', hbk', q0, -, -, -, -, -, -⟩ := cm_at hown2.sl HLT.out
          obtain rfl := Option.some.inj had
          obtain rfl : m = m' := Option.some.inj (hm.out.symm.trans hm'.out)
          rw [HK.out] at q0
          obtain ⟨mn, hmn⟩ : ∃ mn, lastN s.count = mn := ⟨_, rfl⟩
          rw [hmn] at hless ⊢
          have HMN := hide hmn
          clear hmn
          have g1_ : Op.bytesLess cn mn = false := by
            rcases Bool.eq_false_or_eq_true (Op.bytesLess cn mn) with h | h
            · have := bl_trans h hless
              rw [bl_irr] at this; cases this
            · exact h
          have g2_ : (cn == mn) = false := by
            rcases Bool.eq_false_or_eq_true (cn == mn) with h | h
            · have := eq_of_beq h
              rw [this, bl_irr] at hless; cases hless
            · exact h
          clear hless
          go_wp2_with fail
          go_roundw
          case rel => exact ⟨k + 1, t, A1, c1, A2, c2, by have := HLT.out; omega, by rw [hnext.out], by go_num, hS2, hrep2, HI1.out, HS1.out, hown2, hx2⟩
          case measure => have := HLT.out; simp [intOf]; omega
      case en2 =>
        intro tm W hR hsz hk
        rw [Rg.fin_eqX (ds := [26, 27, 28, 29, 30, 31, 25, 32, 33]) rfl (by decide) rfl rfl hsz hk]
        have k25 : (fun v W => ∃ A1 c1 A2 c2, v = .tuple #[.agg #[.int .u64 t.now, .int .u64 t.count, .slice A1 t.links.length c1, .slice A2 t.sess.length c2], .agg #[.int .i64 a.err, str a.text]] ∧ stE.rep W (XN g1 gw ga) [.int .u64 t.now, .int .u64 t.count, .slice A1 t.links.length c1, .slice A2 t.sess.length c2] t) (tm.getD 25 undef) W := hk 25
        have k26 : tm.getD 26 undef = .agg #[.int .u64 s.now, .int .u64 s.count, .slice At s.links.length ct, .slice Au s.sess.length cu] := hk 26
        have k27 : tm.getD 27 undef = .slice (some ad) l.length c := hk 27
        have k28 : tm.getD 28 undef = .int .i64 k := hk 28
        have k29 : tm.getD 29 undef = .pointer (some (ad.add (k * 6))) := hk 29
        have k30 : tm.getD 30 undef = .agg #[.int .i64 m.kind, .int .i64 m.client, .int .u64 m.seq, str m.name, str m.url, .int .u64 m.till] := hk 30
        have k31 : (fun v W => ∃ A1 c1 A2 c2, v = .tuple #[.agg #[.int .u64 t.now, .int .u64 t.count, .slice A1 t.links.length c1, .slice A2 t.sess.length c2], .agg #[.int .i64 a.err, str a.text]] ∧ stE.rep W (XN g1 gw ga) [.int .u64 t.now, .int .u64 t.count, .slice A1 t.links.length c1, .slice A2 t.sess.length c2] t) (tm.getD 31 undef) W := hk 31
        have k32 : (fun v W => ∃ A1 c1 A2 c2, v = .agg #[.int .u64 t.now, .int .u64 t.count, .slice A1 t.links.length c1, .slice A2 t.sess.length c2] ∧ stE.rep W (XN g1 gw ga) [.int .u64 t.now, .int .u64 t.count, .slice A1 t.links.length c1, .slice A2 t.sess.length c2] t) (tm.getD 32 undef) W := hk 32
        clear hk hsz
        simp only [Rg.putAll, List.setIfInBounds_toArray, List.set_cons_zero, List.set_cons_succ, k26, k27, k28, k29, k30]
        generalize tm.getD 25 undef = u25 at *
        clear k26
        clear k27
        clear k28
        clear k29
        clear k30
        generalize tm.getD 31 undef = u31 at *
        generalize tm.getD 32 undef = u32 at *
        generalize tm.getD 33 undef = u33 at *
        clear k31
        obtain ⟨A1, c1, A2, c2, rfl, hrep1⟩ := k32
        replace hS := hS.ext hR
        replace hW := hW.ext hR
        replace hA := hA.ext hR
        replace hown := hown.ext hR
        replace hxr := hxr.trans' hR
        have l0 := (hS.cell 0).trans rfl
        have l1 := (hS.cell 1).trans rfl
        have l2 := (hS.cell 2).trans rfl
        have l3 := (hS.cell 3).trans rfl
        have n0 := hS.frozen 0
        have n1 := hS.frozen 1
        have n2 := hS.frozen 2
        have n3 := hS.frozen 3
        have a0 := (hA.cell 0).trans rfl
        have a1 := (hA.cell 1).trans rfl
        have b0 := hA.frozen 0
        have b1 := hA.frozen 1
        have hcg : Chg [g1] W _ := (Chg.refl [g1] W).four (g := g1) (by simp) (.int .u64 t.now) (.int .u64 t.count) (.slice A1 t.links.length c1) (.slice A2 t.sess.length c2)
        have hS1 := Blk.four hS (.int .u64 t.now) (.int .u64 t.count) (.slice A1 t.links.length c1) (.slice A2 t.sess.length c2)
        have hA1 := Blk.two_ (hA.chg hcg (by simp; omega)) (.int .i64 a.err) (str a.text)
        have hc2 : Chg [ga] _ _ := (Chg.refl [ga] ((((W.setCell ⟨g1, 0, none⟩ (.int .u64 t.now)).setCell ⟨g1, 1, none⟩ (.int .u64 t.count)).setCell ⟨g1, 2, none⟩ (.slice A1 t.links.length c1)).setCell ⟨g1, 3, none⟩ (.slice A2 t.sess.length c2))).two_ (g := ga) (by simp) (.int .i64 a.err) (str a.text)
        have hS2 := hS1.chg hc2 (by simp; omega)
        have hW2 := (hW.chg hcg (by simp; omega)).chg hc2 (by simp; omega)
        have hrep2 := stE.mono (stE.chg (stE.chg hrep1 hcg (fun j hj _ => .inl (by simpa using hj))) hc2 (fun j hj _ => .inr (.inr (by simpa using hj)))) (Y := fun j => j = g1) (fun j _ h => .inl h)
        have hown2 := (hown.chgT hS (by decide) hcg (fun h => cm_any h)).chgT (hA.chg hcg (by simp; omega)) (by decide) hc2 (fun h => cm_any h)
        have hx2 := (hxr.then_ hcg (by simp; omega)).then_ hc2 (by simp; omega)
        obtain ⟨A8, c8, A9, c9, hv25, -⟩ := k25
        rw [hv25]
        clear hv25
        simp only [List.drop_succ_cons, List.drop_zero]
        go_upto_region 14 with fail
        try generalize (((((W.setCell ⟨g1, 0, none⟩ (.int .u64 t.now)).setCell ⟨g1, 1, none⟩ (.int .u64 t.count)).setCell ⟨g1, 2, none⟩ (.slice A1 t.links.length c1)).setCell ⟨g1, 3, none⟩ (.slice A2 t.sess.length c2)).setCell ⟨ga, 0, none⟩ (.int .i64 a.err)).setCell ⟨ga, 1, none⟩ (str a.text) = w5 at *
        clear hcg hc2 hS1 l0 l1 l2 l3 n0 n1 n2 n3 a0 a1 b0 b1 hS hA hW hrep1 hR hown hxr
        have l1 := (hS2.cell 1).trans rfl
        have m1 := (hW2.cell 1).trans rfl
        have a1 := (hA1.cell 1).trans rfl
        rcases HN.out with hc | ⟨hc, hk, ha, hlt4⟩
        · have HC := hide hc
          rw [hc] at l1
          clear hc
          go_wp2_with fail
          go_roundw
          case rel => exact ⟨k + 1, t, A1, c1, A2, c2, by have := HLT.out; omega, by rw [HC.out], by go_num, hS2, hrep2, HI1.out, HS1.out, hown2, hx2⟩
          case measure => have := HLT.out; simp [intOf]; omega
        · have HC := hide hc
          have hwr : IntKind.u64.wrap (s.count + 1) = s.count + 1 := IntWalk.u64_in _ ⟨by have := HI.out.count0; omega, by omega⟩
          have hc0 : 0 ≤ s.count := HI.out.count0
          have hc1 : ¬ s.count = s.count + 1 := by omega
          have hc2 : ¬ s.count + 1 = s.count := by omega
          obtain ⟨cn, hcn⟩ : ∃ cn, cn = code3 s.count.toNat := ⟨_, rfl⟩
          have e1 : a.err = 0 := by rw [ha]
          have e2 : a.text = cn := by rw [ha, hcn]
          have hless : Op.bytesLess (lastN s.count) cn = true := by rw [hcn]; exact lastN_less hc0 hlt4
          have hnext : Hid (lastN t.count = cn) := hide (by rw [hc, hcn]; exact lastN_next hc0)
          have HP := hide (fun W => code_at s.count cn 0 W ⟨hc0, by omega⟩ (by rw [hcn]; exact ocode_lt _ (by omega)))
          rw [hc] at l1
          rw [e2] at a1
          have HK := hide hk
          have E2 := hide e2
          clear hc ha hcn e1 e2 hk
          go_wp2_with fail
          refine (HP.out _).mono ?_
          rintro e w6 ⟨rfl, hx6⟩
          replace hS2 := hS2.ext hx6
          replace hW2 := hW2.ext hx6
          replace hA1 := hA1.ext hx6
          replace hown2 := hown2.ext hx6
          replace hrep2 := stE.ext hrep2 hx6
          replace hx2 := hx2.trans' hx6
          clear l1 m1 a1 hx6
          have l1 := (hS2.cell 1).trans rfl
          have m1 := (hW2.cell 1).trans rfl
          have a1 := (hA1.cell 1).trans rfl
          rw [HC.out] at l1
          rw [E2.out] at a1
          obtain ⟨ad', m', had, hm', hbk', q0, -, -, -, -, -, -⟩ := cm_at hown2.sl HLT.out
          obtain rfl := Option.some.inj had
          obtain rfl : m = m' := Option.some.inj (hm.out.symm.trans hm'.out)
          rw [HK.out] at q0
          obtain ⟨mn, hmn⟩ : ∃ mn, lastN s.count = mn := ⟨_, rfl⟩
          rw [hmn] at hless ⊢
          have HMN := hide hmn
          clear hmn
          have g1_ : Op.bytesLess cn mn = false := by
            rcases Bool.eq_false_or_eq_true (Op.bytesLess cn mn) with h | h
            · have := bl_trans h hless
              rw [bl_irr] at this; cases this
            · exact h
          have g2_ : (cn == mn) = false := by
            rcases Bool.eq_false_or_eq_true (cn == mn) with h | h
            · have := eq_of_beq h
              rw [this, bl_irr] at hless; cases hless
            · exact h
          clear hless
          go_wp2_with fail
          go_roundw
          case rel => exact ⟨k + 1, t, A1, c1, A2, c2, by have := HLT.out; omega, by rw [hnext.out], by go_num, hS2, hrep2, HI1.out, HS1.out, hown2, hx2⟩
          case measure => have := HLT.out; simp [intOf]; omega
    · go_wp2_with fail
      go_ret
      exact ⟨rfl, hxr⟩
end Go.Proofs.Ytggfemdgccgbpaa

/- The statement 'LinksNeverSaid': whatever is handed in, the law answers true, and what was handed in is as it was. -/
namespace Go.Proofs.Ytggfemdgccgbpaa.linksNever
set_option linter.unusedVariables false
set_option linter.unusedSimpArgs false
set_option linter.unnecessarySimpa false
set_option maxRecDepth 100000
open Go.ChangeShapes Go.WideShapes Go.ChangeAt Go.RowKit
open Go.ChangeMaps (open_string shut_string)

set_option maxRecDepth 100000 in
set_option maxHeartbeats 2000000 in
theorem lifted (os : Os) (started : os.Started) (H : Type) (enc : TypeId × Value → H) :
    ReturnsInHanded {} Try.checked os 4 .any (Rows.linksNeverSpec.pre6 enc Try.prog Try.f4 Rows.linksNeverRow.domain false) (Rows.linksNeverSpec.post enc Try.prog Try.f4 false true false false) := by
  refine returnsInHanded_of_change (C := Try.checked) own started (by kernel_rfl) Try.func4
    (ChangeSpec.witness6 (enc := enc) (C := Try.checked) false ⟨#[], #[.slice none 0 0], []⟩ 8 (by kernel_rfl) (by kernel_rfl) (by kernel_rfl) (by kernel_rfl)) ?_
  intro W base args ds gs before hval0 hW hcnd _
  have hval : ∀ (j : Nat) t v, Try.f4.params[j]? = some t → args[j]? = some v → Value.okWide Try.prog W .any base t v := hval0
  have hW' := hW
  obtain ⟨p, q, hA0, hV, rfl, hfz, hnd⟩ := hW
  have hA : DataW.TrodAll enc Try.prog W 0 (fun _ => true) true Try.f4.params.toList args.toList ds p := hA0
  rw [Try.params4] at hA hval
  obtain ⟨v0, vs0, d0, ds0, p0, q0, hargs, rfl, rfl, h0, r0⟩ := trodAll_cons hA
  obtain ⟨rfl, rfl, rfl⟩ := trodAll_nil r0
  obtain rfl : args = #[v0] := by cases args; simp_all
  obtain ⟨rfl, rfl⟩ := trodVars_none hV
  obtain ⟨a0, len0, cap0, rfl⟩ := okWide_slice Try.underlying22 (hval 0 22 v0 rfl rfl)
  have k0 := h0
  have lt0 : ∀ x ∈ p0, x.block < W.heap.size := by obtain ⟨m, hm⟩ := k0; exact DataW.trod_lt m _ _ _ hm
  obtain ⟨b0, hb0⟩ : ∃ b, Bs W (.slice a0 len0 cap0) b := by
    obtain ⟨fuel, hf⟩ := h0
    rcases open_ints Try.underlying22 Try.underlying5 (by kernel_rfl) hf with ⟨hcs, _⟩ | ⟨x, l, c, zs, hcs, _, hl, hm, hz, _, hcell, hwz⟩
    · simp [Value.cells] at hcs
      obtain ⟨rfl, rfl, rfl⟩ := hcs
      exact ⟨[], bs_none⟩
    · simp [Value.cells] at hcs
      obtain ⟨rfl, rfl, rfl⟩ := hcs
      exact bs_of_ints hl hm (by simpa using hz) hcell hwz
  clear hA0 hval0
  refine (linksNever_walk _ b0 W hb0).mono fun e W' ⟨he, bel⟩ => ?_
  subst he
  exact ⟨_, rfl, _, _, _, [], _, [], hW', trodAll_mk1 (shut_bool Try.underlying4 _), (trodAll_cons_mk (Below.trod laidOut (by kernel_rfl) (of_decide_eq_true (by kernel_rfl)) k0 bel lt0) trodAll_mk0), rfl, bel.frame _, fun h => by cases h⟩

theorem over : Rows.linksNeverRow.holds Try.pinned (OpenSpec.ofChange Rows.linksNeverSpec) :=
  OpenClaim.holds_of_wide 4 Try.f4 rfl rfl rfl rfl rfl rfl rfl ⟨rfl, rfl, rfl, rfl, rfl⟩ rfl rfl rfl rfl rfl (by kernel_rfl) Try.func4 (by kernel_rfl)
    (of_decide_eq_true (by kernel_rfl)) (by unfold Func.isWrapper; first | (rw [if_pos (by decide +kernel)]; kernel_rfl) | (rw [if_neg (by decide +kernel)]; exact ⟨rfl, rfl⟩))
    (fun os started H enc _ => lifted os started H enc)

/-- THE STATEMENT -/
theorem proved : Rows.LinksNeverSaid := over
#print axioms proved
end Go.Proofs.Ytggfemdgccgbpaa.linksNever

