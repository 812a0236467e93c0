import Derived.Test.YtggfemdgccgbpaaPk32
import Derived.Test.YtggfemdgccgbpaaPk34
/- Links: what the laws call. -/
namespace Go.Proofs.Ytggfemdgccgbpaa
set_option linter.unusedVariables false
set_option linter.unusedSimpArgs false
set_option linter.unnecessarySimpa false
set_option maxRecDepth 100000
open Go.RowKit
theorem ldoK_eq {s : St} (h : LInv s) (c : Cm) : ldoW lfind lkput s c = ldo s c := by
  unfold ldo ldoW
  by_cases h4 : c.kind = 4
  · rw [if_pos h4, if_pos h4]
  rw [if_neg h4, if_neg h4]
  by_cases h1 : c.kind = 1
  · rw [if_pos h1, if_pos h1]
    unfold lmakeW
    split
    · rfl
    · split
      · rfl
      · split
        · rfl
        · rename_i hc
          rw [lwith_new (h.fresh (by omega))]
  rw [if_neg h1, if_neg h1]
  by_cases h2 : c.kind = 2
  · rw [if_pos h2, if_pos h2]
    unfold lnameW
    split
    · rfl
    · split
      · rfl
      · split
        · rfl
        · rename_i hf
          rw [lwith_new hf]
  rw [if_neg h2, if_neg h2]
/-- a state and an answer -/
def RetDo (X : Avoid) (w w' : World) (e : Ending) (r : St × An) : Prop :=
  ∃ (t : St) (a : An) (At : Option Addr) (ct : Nat) (Au : Option Addr) (cu : Nat), Hid ((t, a) = r) ∧ e = .returned (.tuple #[.agg #[.int .u64 t.now, .int .u64 t.count, .slice At t.links.length ct, .slice Au t.sess.length cu], .agg (acells a).toArray]) ∧
    stE.rep w' X [.int .u64 t.now, .int .u64 t.count, .slice At t.links.length ct, .slice Au t.sess.length cu] t ∧ Ext w w'
theorem ldoL_b (X : Avoid) (s : St) (cs : List Value) (c : Cm) (w : World) (hX : ∀ k, X k → k < w.heap.size) (hs : stE.rep w X cs s) (hi : LInv s) (hse : s.sess = []) (hc : c.wide) (hcu : c.url.length ≤ 1000000) (hcn : c.name.length ≤ 1000000) :
    Calls Try.prog 13 #[.agg cs.toArray, cv c] w fun e w' => RetDo X w w' e (ldo s c) := by
  refine (ldo_b X s cs c w hX hs hc hcu hcn hi.rise (by have := hi.len; omega) (fun h => hi.fresh h) (by rw [hse]; simp) (by rw [hse]; simp)).mono ?_
  rintro e w' ⟨cs', t, a, h1, rfl, h2, h3⟩
  obtain ⟨vl, vs, rfl, s1, s2, s3, s4⟩ := st_rep.1 h2
  obtain ⟨At, ct, rfl, -, -⟩ := s3.form
  obtain ⟨Au, cu, rfl, -, -⟩ := s4.form
  exact ⟨t, a, At, ct, Au, cu, hide (by rw [h1.out, ldoK_eq hi]), rfl, h2, h3⟩
theorem cm_at {w : World} {X : Avoid} {A : Option Addr} {n c k : Nat} {l : List Cm} (h : Enc.Sl cmE w X (.slice A n c) l) (hk : k < l.length) : ∃ (ad : Addr) (m : Cm), A = some ad ∧ Hid (l[k]? = some m) ∧ ad.block < w.heap.size ∧ w.cell? (ad.add (k * 6)) = some (.int .i64 m.kind) ∧
    w.cell? ⟨(ad.add (k * 6)).block, (ad.add (k * 6)).off + 1, none⟩ = some (.int .i64 m.client) ∧ w.cell? ⟨(ad.add (k * 6)).block, (ad.add (k * 6)).off + 2, none⟩ = some (.int .u64 m.seq) ∧
    w.cell? ⟨(ad.add (k * 6)).block, (ad.add (k * 6)).off + 3, none⟩ = some (str m.name) ∧ w.cell? ⟨(ad.add (k * 6)).block, (ad.add (k * 6)).off + 4, none⟩ = some (str m.url) ∧
    w.cell? ⟨(ad.add (k * 6)).block, (ad.add (k * 6)).off + 5, none⟩ = some (.int .u64 m.till) ∧ m.wide := by
  obtain ⟨ad, cs, rfl, hrep, hb, hcell⟩ := h.at_ hk
  obtain ⟨h1, h2⟩ := cmE_rep (cs := cs.toArray) (by simpa using hrep)
  have h3 : cs = (ccells l[k]).toList := by rw [← h1]
  subst h3
  exact ⟨ad, _, rfl, hide (List.getElem?_eq_getElem hk), hb, Enc.cell0 hcell rfl, Enc.cellS hcell 0 rfl, Enc.cellS hcell 1 rfl, Enc.cellS hcell 2 rfl, Enc.cellS hcell 3 rfl, Enc.cellS hcell 4 rfl, h2⟩
set_option maxHeartbeats 1600000 in
theorem lkFind_b (s : St) (cs : List Value) (n : Bytes) (w : World) (hs : stE.rep w noneAt cs s) (hr : RiseL s.links) (hl : s.links.length ≤ 10000) (hn : n.length ≤ maxLen) :
    Calls Try.prog 19 #[.agg cs.toArray, str n] w fun e w' => e = .returned (.tuple #[.agg (lcells (lfv s.links n).1).toArray, .bool (lfv s.links n).2]) ∧ Ext w w' := by
  obtain ⟨vl, vs, rfl, s1, s2, s3, s4⟩ := st_rep.1 hs
  obtain ⟨Al, cl, rfl, -, -⟩ := s3.form
  have hx0 : Ext w ((w.alloc (.cells (stcells s (.slice Al s.links.length cl) vs).toArray 28)).alloc (.cells (lcells Ln0).toArray 48)) := ((Ext.rfl' w).alloc' _).alloc' _
  have hB := (Blk.new w 28 (stcells s (.slice Al s.links.length cl) vs).toArray).alloc (.cells (lcells Ln0).toArray 48)
  have hL := Blk.new (w.alloc (.cells (stcells s (.slice Al s.links.length cl) vs).toArray 28)) 48 (lcells Ln0).toArray
  rw [show (w.alloc (.cells (stcells s (.slice Al s.links.length cl) vs).toArray 28)).heap.size = w.heap.size + 1 by simp] at hL
  have HT := hide (tfind_b (.slice Al s.links.length cl) s.links n _ (by omega) (s3.ext hx0) hr hn)
  obtain ⟨⟨y, is⟩, hyi⟩ : ∃ r, lfv s.links n = r := ⟨_, rfl⟩
  rw [hyi] at HT ⊢
  clear hyi
  obtain ⟨g, hg⟩ : ∃ g, w.heap.size = g := ⟨_, rfl⟩
  rw [hg] at hB hL
  have b2 := (hB.cell 2).trans rfl
  go_enter Try.func19, Try.ntmps19
  go_wp2_with fail
  refine HT.out.mono ?_
  rintro e w2 ⟨rfl, hx2⟩
  replace hL := hL.ext hx2
  have l0 := (hL.cell 0).trans rfl
  have l1 := (hL.cell 1).trans rfl
  have l2 := (hL.cell 2).trans rfl
  have l3 := (hL.cell 3).trans rfl
  have n0 := hL.frozen 0
  have n1 := hL.frozen 1
  have n2 := hL.frozen 2
  have n3 := hL.frozen 3
  go_wp2
  try simp only [Exit.inBlock, Exit.then]
  refine bodyPost_ret (results_cell2 rfl _ _ (g + 1) 48 (lcells y).toArray (0, 0) _ rfl (Blk.four hL (str y.name) (str y.url) (.int .u64 y.till) (.bool y.made)) Try.underlying48 rfl (by kernel_rfl)) rfl ?_
  exact ⟨rfl, (hx0.trans' hx2).then_ ((Chg.refl [g + 1] w2).four (by simp) _ _ _ _) (by simp; omega)⟩
end Go.Proofs.Ytggfemdgccgbpaa

/- Links: what commands leave that are made of numbers. -/
namespace Go.Proofs.Ytggfemdgccgbpaa
set_option linter.unusedVariables false
set_option linter.unusedSimpArgs false
set_option linter.unnecessarySimpa false
set_option maxRecDepth 100000
open Go.RowKit
/-- the variables' blocks -/
abbrev XV (g0 : Nat) : Avoid := fun k => k = g0 ∨ k = g0 + 1
def RetSt (w w' : World) (e : Ending) : Prop := ∃ (s : St) (At : Option Addr) (ct : Nat) (Au : Option Addr) (cu : Nat), LInv s ∧ s.sess = [] ∧ e = .returned (.agg #[.int .u64 s.now, .int .u64 s.count, .slice At s.links.length ct, .slice Au s.sess.length cu]) ∧
  stE.rep w' noneAt [.int .u64 s.now, .int .u64 s.count, .slice At s.links.length ct, .slice Au s.sess.length cu] s ∧ Ext w w'
theorem stN_rep (w : World) (X : Avoid) : stE.rep w X [.int .u64 0, .int .u64 0, .slice none 0 0, .slice none 0 0] ⟨0, 0, [], []⟩ :=
  st_rep.2 ⟨.slice none 0 0, .slice none 0 0, rfl, ⟨by simp, by simp⟩, ⟨by simp, by simp⟩, Enc.Sl.nil _ _ _, Enc.Sl.nil _ _ _⟩
set_option maxHeartbeats 6400000 in
theorem run_b (x : Value) (b : Bytes) (w : World) (hx : Bs w x b) (hl : b.length ≤ 1000) :
    Calls Try.prog 17 #[x] w fun e w' => RetSt w w' e := by
  have hB := Blk.new (w.alloc (.cells #[.int .u64 0, .int .u64 0, .slice none 0 0, .slice none 0 0] 28)) 28 #[.int .u64 0, .int .u64 0, .slice none 0 0, .slice none 0 0]
  have hB0 := (Blk.new w 28 #[.int .u64 0, .int .u64 0, .slice none 0 0, .slice none 0 0]).alloc (.cells #[.int .u64 0, .int .u64 0, .slice none 0 0, .slice none 0 0] 28)
  have hx0 : Ext w ((w.alloc (.cells #[.int .u64 0, .int .u64 0, .slice none 0 0, .slice none 0 0] 28)).alloc (.cells #[.int .u64 0, .int .u64 0, .slice none 0 0, .slice none 0 0] 28)) := ((Ext.rfl' w).alloc' _).alloc' _
  rw [show (w.alloc (.cells #[.int .u64 0, .int .u64 0, .slice none 0 0, .slice none 0 0] 28)).heap.size = w.heap.size + 1 by simp] at hB
  obtain ⟨g0, hg0⟩ : ∃ g, w.heap.size = g := ⟨_, rfl⟩
  rw [hg0] at hB hB0
  obtain ⟨g, hg⟩ : ∃ g, g0 + 1 = g := ⟨_, rfl⟩
  go_enter Try.func17, Try.ntmps17
  go_upto_region 2 with fail
  generalize ((w.alloc (.cells #[.int .u64 0, .int .u64 0, .slice none 0 0, .slice none 0 0] 28)).alloc (.cells #[.int .u64 0, .int .u64 0, .slice none 0 0, .slice none 0 0] 28)) = w0 at *
  try rw [hg0]
  go_wp2_with fail
  refine (cmds_b x b 30 _ (hx.ext hx0) (by omega) (by omega)).mono ?_
  rintro e w1 ⟨l, A, c, hpc, hlen, rfl, hown, hx1⟩
  rw [hg] at hB
  try rw [hg]
  go_wp2_with fail
  go_loopw [5] (fun i wr => ∃ (k : Nat) (s : St) (At : Option Addr) (ct : Nat) (Au : Option Addr) (cu : Nat), k ≤ l.length ∧ i = .int .i64 k ∧ Blk wr g 28 #[.int .u64 s.now, .int .u64 s.count, .slice At s.links.length ct, .slice Au s.sess.length cu] ∧ Blk wr g0 28 #[.int .u64 0, .int .u64 0, .slice none 0 0, .slice none 0 0] ∧
      stE.rep wr (XV g0) [.int .u64 s.now, .int .u64 s.count, .slice At s.links.length ct, .slice Au s.sess.length cu] s ∧ LInv s ∧ s.sess = [] ∧ Own 37 cmE w0 wr noneAt (.slice A l.length c) l ∧ Ext w wr) (fun i _ => (l.length - intOf i).toNat)
  case atStart => exact ⟨0, ⟨0, 0, [], []⟩, none, 0, none, 0, by omega, rfl, hB.ext hx1, hB0.ext hx1, stN_rep _ _, linv0, rfl, hown, hx0.trans' hx1⟩
  case round =>
    obtain ⟨k, s, At, ct, Au, cu, hkl, rfl, hB, hB0, hrep, hi, hse, hown, hxr⟩ := hrel
    by_cases hlt : k < l.length
    · obtain ⟨ad, m, rfl, hm, hbk, p0, p1, p2, p3, p4, p5, hmw⟩ := cm_at hown.sl hlt
      have hpm := hpc m (List.mem_of_getElem? hm.out)
      have hXg : ∀ k, XV g0 k → k < wr.heap.size := fun k hk => hk.elim (fun h => h ▸ hB0.lt) fun h => by rw [h, hg]; exact hB.lt
      have HD := hide (fun W (hx : Ext wr W) => ldoL_b (XV g0) s _ m W (fun k hk => Nat.lt_of_lt_of_le (hXg k hk) hx.size) (stE.ext hrep hx) hi hse hmw (Nat.le_trans hpm.url (by decide)) (Nat.le_trans hpm.name (by decide)))
      have hi1 := hi.step (c := m) hpm.t0
      have hse1 := (ldo_sess s m).trans hse
      obtain ⟨⟨t, a⟩, hta⟩ : ∃ r, ldo s m = r := ⟨_, rfl⟩
      rw [hta] at HD hi1 hse1
      simp only at hi1 hse1
      clear hta
      have hb1 : (0 : Int) ≤ k := by omega
      have hb2 : (k : Int) < l.length := by omega
      have HLT := hide hlt
      have HS1 := hide hse1
      have HS0 := hide hse
      clear hse1 hse
      go_wp2
      refine Rg.regionX Try.checked.mixed 24 9 8 22 _ _ (by rfl) (by rfl) (by kernel_rfl) [
        (fun x_ _ => x_ = .agg #[.int .u64 s.now, .int .u64 s.count, .slice At s.links.length ct, .slice Au s.sess.length cu]),
        (fun x_ _ => x_ = .slice (some ad) l.length c),
        (fun x_ _ => x_ = .int .i64 k),
        (fun x_ _ => x_ = .pointer (some (ad.add (k * 6)))),
        (fun x_ _ => x_ = .agg #[.int .i64 m.kind, .int .i64 m.client, .int .u64 m.seq, str m.name, str m.url, .int .u64 m.till]),
        (fun v W => ∃ A1 c1 A2 c2, v = .tuple #[.agg #[.int .u64 t.now, .int .u64 t.count, .slice A1 t.links.length c1, .slice A2 t.sess.length c2], .agg #[.int .i64 a.err, str a.text]] ∧ stE.rep W (XV g0) [.int .u64 t.now, .int .u64 t.count, .slice A1 t.links.length c1, .slice A2 t.sess.length c2] t),
        (fun v W => ∃ A1 c1 A2 c2, v = .tuple #[.agg #[.int .u64 t.now, .int .u64 t.count, .slice A1 t.links.length c1, .slice A2 t.sess.length c2], .agg #[.int .i64 a.err, str a.text]] ∧ stE.rep W (XV g0) [.int .u64 t.now, .int .u64 t.count, .slice A1 t.links.length c1, .slice A2 t.sess.length c2] t),
        (fun v W => ∃ A1 c1 A2 c2, v = .agg #[.int .u64 t.now, .int .u64 t.count, .slice A1 t.links.length c1, .slice A2 t.sess.length c2] ∧ stE.rep W (XV g0) [.int .u64 t.now, .int .u64 t.count, .slice A1 t.links.length c1, .slice A2 t.sess.length c2] t),
        (fun x_ _ => x_ = .agg #[.int .i64 a.err, str a.text])] (fun W => Ext wr W) Ext rfl rfl rfl
        ?st ((Ext.rfl' wr).drew') ?ob ?en ?en2
      case st => exact ⟨fun _ _ _ h _ => h, fun _ _ _ h _ => h, fun _ _ _ h _ => h, fun _ _ _ h _ => h, fun _ _ _ h _ => h, fun _ _ _ ⟨a1_, a2_, a3_, a4_, h1_, h2_⟩ hx => ⟨a1_, a2_, a3_, a4_, h1_, stE.ext h2_ hx⟩, fun _ _ _ ⟨a1_, a2_, a3_, a4_, h1_, h2_⟩ hx => ⟨a1_, a2_, a3_, a4_, h1_, stE.ext h2_ hx⟩, fun _ _ _ ⟨a1_, a2_, a3_, a4_, h1_, h2_⟩ hx => ⟨a1_, a2_, a3_, a4_, h1_, stE.ext h2_ hx⟩, fun _ _ _ h _ => h, trivial⟩
      case ob =>
        refine ⟨Rg.at_run [3] rfl ?_, ?_⟩
        · intro ρ W hR ⟨q3, _⟩
          replace q3 : ρ 3 = .pointer (some ⟨g, 0, none⟩) := q3
          refine ⟨rfl, ?_⟩
          have c0_ : W.cell? ⟨g, 0, none⟩ = some (.int .u64 s.now) := ((hB.ext hR).cell 0).trans rfl
          have c1_ : W.cell? ⟨g, 1, none⟩ = some (.int .u64 s.count) := ((hB.ext hR).cell 1).trans rfl
          have c2_ : W.cell? ⟨g, 2, none⟩ = some (.slice At s.links.length ct) := ((hB.ext hR).cell 2).trans rfl
          have c3_ : W.cell? ⟨g, 3, none⟩ = some (.slice Au s.sess.length cu) := ((hB.ext hR).cell 3).trans rfl
          exact Rg.run_ok (v := .agg #[.int .u64 s.now, .int .u64 s.count, .slice At s.links.length ct, .slice Au s.sess.length cu]) (by simp [execOp, Rg.ev, go_sem, q3, c0_, c1_, c2_, c3_]) ⟨rfl, hR, Ext.rfl' _⟩
        refine ⟨Rg.at_run [4] rfl ?_, ?_⟩
        · intro ρ W hR ⟨q4, _⟩
          replace q4 : ρ 4 = .slice (some ad) l.length c := q4
          refine ⟨rfl, ?_⟩
          exact Rg.run_ok (v := .slice (some ad) l.length c) (by simp [execOp, Rg.ev, go_sem, q4]) ⟨rfl, hR, Ext.rfl' _⟩
        refine ⟨Rg.at_run [5] rfl ?_, ?_⟩
        · intro ρ W hR ⟨q5, _⟩
          replace q5 : ρ 5 = .int .i64 k := q5
          refine ⟨rfl, ?_⟩
          exact Rg.run_ok (v := .int .i64 k) (by simp [execOp, Rg.ev, go_sem, q5]) ⟨rfl, hR, Ext.rfl' _⟩
        refine ⟨Rg.at_run [16, 17] rfl ?_, ?_⟩
        · intro ρ W hR ⟨q16, q17, _⟩
          replace q16 : ρ 16 = .slice (some ad) l.length c := q16
          replace q17 : ρ 17 = .int .i64 k := q17
          refine ⟨rfl, ?_⟩
          exact Rg.run_ok (v := .pointer (some (ad.add (k * 6)))) (by simp [execOp, Rg.ev, go_sem, q16, q17, hb1, hb2]) ⟨rfl, hR, Ext.rfl' _⟩
        refine ⟨Rg.at_run [18] rfl ?_, ?_⟩
        · intro ρ W hR ⟨q18, _⟩
          replace q18 : ρ 18 = .pointer (some (ad.add (k * 6))) := q18
          refine ⟨rfl, ?_⟩
          have hab_ : (ad.add (k * 6)).block < wr.heap.size := by rw [block_of_add]; exact hbk
          have c0_ : W.cell? (ad.add (k * 6)) = some (.int .i64 m.kind) := (hR.cell (p := (ad.add (k * 6))) hab_).trans p0
          have c1_ : W.cell? ⟨(ad.add (k * 6)).block, (ad.add (k * 6)).off + 1, none⟩ = some (.int .i64 m.client) := (hR.cell (p := ⟨(ad.add (k * 6)).block, (ad.add (k * 6)).off + 1, none⟩) hab_).trans p1
          have c2_ : W.cell? ⟨(ad.add (k * 6)).block, (ad.add (k * 6)).off + 2, none⟩ = some (.int .u64 m.seq) := (hR.cell (p := ⟨(ad.add (k * 6)).block, (ad.add (k * 6)).off + 2, none⟩) hab_).trans p2
          have c3_ : W.cell? ⟨(ad.add (k * 6)).block, (ad.add (k * 6)).off + 3, none⟩ = some (str m.name) := (hR.cell (p := ⟨(ad.add (k * 6)).block, (ad.add (k * 6)).off + 3, none⟩) hab_).trans p3
          have c4_ : W.cell? ⟨(ad.add (k * 6)).block, (ad.add (k * 6)).off + 4, none⟩ = some (str m.url) := (hR.cell (p := ⟨(ad.add (k * 6)).block, (ad.add (k * 6)).off + 4, none⟩) hab_).trans p4
          have c5_ : W.cell? ⟨(ad.add (k * 6)).block, (ad.add (k * 6)).off + 5, none⟩ = some (.int .u64 m.till) := (hR.cell (p := ⟨(ad.add (k * 6)).block, (ad.add (k * 6)).off + 5, none⟩) hab_).trans p5
          exact Rg.run_ok (v := .agg #[.int .i64 m.kind, .int .i64 m.client, .int .u64 m.seq, str m.name, str m.url, .int .u64 m.till]) (by simp [execOp, Rg.ev, go_sem, q18, c0_, c1_, c2_, c3_, c4_, c5_]) ⟨rfl, hR, Ext.rfl' _⟩
        refine ⟨Rg.at_run [15, 19] rfl ?_, ?_⟩
        · intro ρ W hR ⟨q15, q19, _⟩
          replace q15 : ρ 15 = .agg #[.int .u64 s.now, .int .u64 s.count, .slice At s.links.length ct, .slice Au s.sess.length cu] := q15
          replace q19 : ρ 19 = .agg #[.int .i64 m.kind, .int .i64 m.client, .int .u64 m.seq, str m.name, str m.url, .int .u64 m.till] := q19
          refine ⟨rfl, ?_⟩
          refine Rg.enter_fn (args := #[.agg #[.int .u64 s.now, .int .u64 s.count, .slice At s.links.length ct, .slice Au s.sess.length cu], .agg #[.int .i64 m.kind, .int .i64 m.client, .int .u64 m.seq, str m.name, str m.url, .int .u64 m.till]]) rfl (by simp only [List.map_toArray, List.map_cons, List.map_nil, Rg.ev, q15, q19]) (by kernel_rfl) ?_
          refine (HD.out W hR).mono ?_
          rintro e_ w9 ⟨t_, a_, A1, c1, A2, c2, h1_, rfl, h2_, hxx⟩
          obtain ⟨rfl, rfl⟩ := Prod.mk.inj h1_.out
          exact ⟨_, rfl, ⟨A1, c1, A2, c2, rfl, h2_⟩, hR.trans' hxx, hxx⟩
        refine ⟨Rg.at_run [20] rfl ?_, ?_⟩
        · intro ρ W hR ⟨q20, _⟩
          replace q20 : (fun v W => ∃ A1 c1 A2 c2, v = .tuple #[.agg #[.int .u64 t.now, .int .u64 t.count, .slice A1 t.links.length c1, .slice A2 t.sess.length c2], .agg #[.int .i64 a.err, str a.text]] ∧ stE.rep W (XV g0) [.int .u64 t.now, .int .u64 t.count, .slice A1 t.links.length c1, .slice A2 t.sess.length c2] t) (ρ 20) W := q20
          refine ⟨rfl, ?_⟩
          exact Rg.run_ok (by simp [execOp, Rg.ev, go_sem] <;> rfl) ⟨q20, hR, Ext.rfl' _⟩
        refine ⟨Rg.at_run [14] rfl ?_, ?_⟩
        · intro ρ W hR ⟨q14, _⟩
          replace q14 : (fun v W => ∃ A1 c1 A2 c2, v = .tuple #[.agg #[.int .u64 t.now, .int .u64 t.count, .slice A1 t.links.length c1, .slice A2 t.sess.length c2], .agg #[.int .i64 a.err, str a.text]] ∧ stE.rep W (XV g0) [.int .u64 t.now, .int .u64 t.count, .slice A1 t.links.length c1, .slice A2 t.sess.length c2] t) (ρ 14) W := q14
          refine ⟨rfl, ?_⟩
          obtain ⟨A1, c1, A2, c2, hv_, hr_⟩ := q14
          exact Rg.run_ok (v := .agg #[.int .u64 t.now, .int .u64 t.count, .slice A1 t.links.length c1, .slice A2 t.sess.length c2]) (by simp [execOp, Rg.ev, go_sem, hv_]) ⟨⟨A1, c1, A2, c2, rfl, hr_⟩, hR, Ext.rfl' _⟩
        refine ⟨Rg.at_run [14] rfl ?_, ?_⟩
        · intro ρ W hR ⟨q14, _⟩
          replace q14 : (fun v W => ∃ A1 c1 A2 c2, v = .tuple #[.agg #[.int .u64 t.now, .int .u64 t.count, .slice A1 t.links.length c1, .slice A2 t.sess.length c2], .agg #[.int .i64 a.err, str a.text]] ∧ stE.rep W (XV g0) [.int .u64 t.now, .int .u64 t.count, .slice A1 t.links.length c1, .slice A2 t.sess.length c2] t) (ρ 14) W := q14
          refine ⟨rfl, ?_⟩
          obtain ⟨A1, c1, A2, c2, hv_, hr_⟩ := q14
          exact Rg.run_ok (v := .agg #[.int .i64 a.err, str a.text]) (by simp [execOp, Rg.ev, go_sem, hv_]) ⟨rfl, hR, Ext.rfl' _⟩
        trivial
      case en =>
        intro tm W hR hsz hk
        rw [Rg.fin_eq (ds := [15, 16, 17, 18, 19, 20, 14, 21, 22]) rfl rfl rfl hsz hk]
        have k14 : (fun v W => ∃ A1 c1 A2 c2, v = .tuple #[.agg #[.int .u64 t.now, .int .u64 t.count, .slice A1 t.links.length c1, .slice A2 t.sess.length c2], .agg #[.int .i64 a.err, str a.text]] ∧ stE.rep W (XV g0) [.int .u64 t.now, .int .u64 t.count, .slice A1 t.links.length c1, .slice A2 t.sess.length c2] t) (tm.getD 14 undef) W := hk 14
        have k15 : tm.getD 15 undef = .agg #[.int .u64 s.now, .int .u64 s.count, .slice At s.links.length ct, .slice Au s.sess.length cu] := hk 15
        have k16 : tm.getD 16 undef = .slice (some ad) l.length c := hk 16
        have k17 : tm.getD 17 undef = .int .i64 k := hk 17
        have k18 : tm.getD 18 undef = .pointer (some (ad.add (k * 6))) := hk 18
        have k19 : tm.getD 19 undef = .agg #[.int .i64 m.kind, .int .i64 m.client, .int .u64 m.seq, str m.name, str m.url, .int .u64 m.till] := hk 19
        have k20 : (fun v W => ∃ A1 c1 A2 c2, v = .tuple #[.agg #[.int .u64 t.now, .int .u64 t.count, .slice A1 t.links.length c1, .slice A2 t.sess.length c2], .agg #[.int .i64 a.err, str a.text]] ∧ stE.rep W (XV g0) [.int .u64 t.now, .int .u64 t.count, .slice A1 t.links.length c1, .slice A2 t.sess.length c2] t) (tm.getD 20 undef) W := hk 20
        have k21 : (fun v W => ∃ A1 c1 A2 c2, v = .agg #[.int .u64 t.now, .int .u64 t.count, .slice A1 t.links.length c1, .slice A2 t.sess.length c2] ∧ stE.rep W (XV g0) [.int .u64 t.now, .int .u64 t.count, .slice A1 t.links.length c1, .slice A2 t.sess.length c2] t) (tm.getD 21 undef) W := hk 21
        have k22 : tm.getD 22 undef = .agg #[.int .i64 a.err, str a.text] := hk 22
        clear hk hsz
        simp only [Rg.putAll, List.setIfInBounds_toArray, List.set_cons_zero, List.set_cons_succ, k15, k16, k17, k18, k19, k22]
        generalize tm.getD 14 undef = u14 at *
        clear k15
        clear k16
        clear k17
        clear k18
        clear k19
        generalize tm.getD 20 undef = u20 at *
        generalize tm.getD 21 undef = u21 at *
        clear k22
        clear k14 k20
        obtain ⟨A1, c1, A2, c2, rfl, hrep1⟩ := k21
        have hBW := hB.ext hR
        have l0 := (hBW.cell 0).trans rfl
        have l1 := (hBW.cell 1).trans rfl
        have l2 := (hBW.cell 2).trans rfl
        have l3 := (hBW.cell 3).trans rfl
        have n0 := hBW.frozen 0
        have n1 := hBW.frozen 1
        have n2 := hBW.frozen 2
        have n3 := hBW.frozen 3
        have hcg : Chg [g] W _ := (Chg.refl [g] W).four (g := g) (by simp) (.int .u64 t.now) (.int .u64 t.count) (.slice A1 t.links.length c1) (.slice A2 t.sess.length c2)
        have hrep2 := stE.chg hrep1 hcg (fun k hk _ => .inr (by simp at hk; omega))
        have hown2 := (hown.ext hR).chgT hBW (by decide) hcg (fun h => cm_any h)
        have hB2 := Blk.four hBW (.int .u64 t.now) (.int .u64 t.count) (.slice A1 t.links.length c1) (.slice A2 t.sess.length c2)
        have hB02 := (hB0.ext hR).chg hcg (by simp; omega)
        have hx2 := (hxr.trans' hR).then_ hcg (by simp; omega)
        go_wp2_with fail
        go_roundw
        case rel => exact ⟨k + 1, t, A1, c1, A2, c2, by have := HLT.out; omega, by go_num, hB2, hB02, hrep2, hi1, HS1.out, hown2, hx2⟩
        case measure => have := HLT.out; simp [intOf]; omega
      case en2 =>
        intro tm W hR hsz hk
        rw [Rg.fin_eqX (ds := [15, 16, 17, 18, 19, 20, 14, 21, 22]) rfl (by decide) rfl rfl hsz hk]
        have k14 : (fun v W => ∃ A1 c1 A2 c2, v = .tuple #[.agg #[.int .u64 t.now, .int .u64 t.count, .slice A1 t.links.length c1, .slice A2 t.sess.length c2], .agg #[.int .i64 a.err, str a.text]] ∧ stE.rep W (XV g0) [.int .u64 t.now, .int .u64 t.count, .slice A1 t.links.length c1, .slice A2 t.sess.length c2] t) (tm.getD 14 undef) W := hk 14
        have k15 : tm.getD 15 undef = .agg #[.int .u64 s.now, .int .u64 s.count, .slice At s.links.length ct, .slice Au s.sess.length cu] := hk 15
        have k16 : tm.getD 16 undef = .slice (some ad) l.length c := hk 16
        have k17 : tm.getD 17 undef = .int .i64 k := hk 17
        have k18 : tm.getD 18 undef = .pointer (some (ad.add (k * 6))) := hk 18
        have k19 : tm.getD 19 undef = .agg #[.int .i64 m.kind, .int .i64 m.client, .int .u64 m.seq, str m.name, str m.url, .int .u64 m.till] := hk 19
        have k20 : (fun v W => ∃ A1 c1 A2 c2, v = .tuple #[.agg #[.int .u64 t.now, .int .u64 t.count, .slice A1 t.links.length c1, .slice A2 t.sess.length c2], .agg #[.int .i64 a.err, str a.text]] ∧ stE.rep W (XV g0) [.int .u64 t.now, .int .u64 t.count, .slice A1 t.links.length c1, .slice A2 t.sess.length c2] t) (tm.getD 20 undef) W := hk 20
        have k21 : (fun v W => ∃ A1 c1 A2 c2, v = .agg #[.int .u64 t.now, .int .u64 t.count, .slice A1 t.links.length c1, .slice A2 t.sess.length c2] ∧ stE.rep W (XV g0) [.int .u64 t.now, .int .u64 t.count, .slice A1 t.links.length c1, .slice A2 t.sess.length c2] t) (tm.getD 21 undef) W := hk 21
        clear hk hsz
        simp only [Rg.putAll, List.setIfInBounds_toArray, List.set_cons_zero, List.set_cons_succ, k15, k16, k17, k18, k19]
        generalize tm.getD 14 undef = u14 at *
        clear k15
        clear k16
        clear k17
        clear k18
        clear k19
        generalize tm.getD 20 undef = u20 at *
        generalize tm.getD 21 undef = u21 at *
        generalize tm.getD 22 undef = u22 at *
        clear k20
        obtain ⟨A8, c8, A9, c9, hv14, -⟩ := k14
        rw [hv14]
        clear hv14
        obtain ⟨A1, c1, A2, c2, rfl, hrep1⟩ := k21
        have hBW := hB.ext hR
        have l0 := (hBW.cell 0).trans rfl
        have l1 := (hBW.cell 1).trans rfl
        have l2 := (hBW.cell 2).trans rfl
        have l3 := (hBW.cell 3).trans rfl
        have n0 := hBW.frozen 0
        have n1 := hBW.frozen 1
        have n2 := hBW.frozen 2
        have n3 := hBW.frozen 3
        have hcg : Chg [g] W _ := (Chg.refl [g] W).four (g := g) (by simp) (.int .u64 t.now) (.int .u64 t.count) (.slice A1 t.links.length c1) (.slice A2 t.sess.length c2)
        have hrep2 := stE.chg hrep1 hcg (fun k hk _ => .inr (by simp at hk; omega))
        have hown2 := (hown.ext hR).chgT hBW (by decide) hcg (fun h => cm_any h)
        have hB2 := Blk.four hBW (.int .u64 t.now) (.int .u64 t.count) (.slice A1 t.links.length c1) (.slice A2 t.sess.length c2)
        have hB02 := (hB0.ext hR).chg hcg (by simp; omega)
        have hx2 := (hxr.trans' hR).then_ hcg (by simp; omega)
        go_wp2_with fail
        refine Rg.nil_list ?_
        go_wp2_with fail
        go_roundw
        case rel => exact ⟨k + 1, t, A1, c1, A2, c2, by have := HLT.out; omega, by go_num, hB2, hB02, hrep2, hi1, HS1.out, hown2, hx2⟩
        case measure => have := HLT.out; simp [intOf]; omega
    · obtain rfl : k = l.length := by omega
      have HS0 := hide hse
      clear hse
      have l0 := (hB.cell 0).trans rfl
      have l1 := (hB.cell 1).trans rfl
      have l2 := (hB.cell 2).trans rfl
      have l3 := (hB.cell 3).trans rfl
      have m0 := (hB0.cell 0).trans rfl
      have m1 := (hB0.cell 1).trans rfl
      have m2 := (hB0.cell 2).trans rfl
      have m3 := (hB0.cell 3).trans rfl
      have n0 := hB0.frozen 0
      have n1 := hB0.frozen 1
      have n2 := hB0.frozen 2
      have n3 := hB0.frozen 3
      go_wp2
      try simp only [Exit.inBlock, Exit.then]
      refine bodyPost_ret (results_cell_row rfl _ _ g0 28 #[.int .u64 s.now, .int .u64 s.count, .slice At s.links.length ct, .slice Au s.sess.length cu] (0, 0) _ rfl (Blk.four hB0 (.int .u64 s.now) (.int .u64 s.count) (.slice At s.links.length ct) (.slice Au s.sess.length cu)) Try.underlying28 rfl (by kernel_rfl)) rfl ?_
      have hcg : Chg [g0] wr _ := (Chg.refl [g0] wr).four (g := g0) (by simp) (.int .u64 s.now) (.int .u64 s.count) (.slice At s.links.length ct) (.slice Au s.sess.length cu)
      exact ⟨s, At, ct, Au, cu, hi, HS0.out, rfl, stE.mono (stE.chg hrep hcg (fun k hk _ => .inl (by simpa using hk))) (fun _ _ h => h.elim), hxr.then_ hcg (by simp; omega)⟩
end Go.Proofs.Ytggfemdgccgbpaa

