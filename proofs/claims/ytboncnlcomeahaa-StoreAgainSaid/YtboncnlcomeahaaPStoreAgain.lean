import Derived.Test.YtboncnlcomeahaaPk32
import Derived.Test.YtboncnlcomeahaaPk33
import Derived.Test.YtboncnlcomeahaaPk7
/- Stores: a disk that lives and is whole, in plain Lean. -/
namespace Go.Proofs.Ytboncnlcomeahaa
set_option linter.unusedVariables false
set_option linter.unusedSimpArgs false
set_option linter.unnecessarySimpa false
set_option maxRecDepth 100000
open Go.RowKit
/-- what is known keeps votes and terms that may be -/
structure Kp.good (k : Kp) : Prop where
  v0 : 0 ≤ k.hard.vote
  v1 : k.hard.vote ≤ 7
  es : ∀ e ∈ k.ents, 0 ≤ e.term ∧ e.term ≤ 18446744073709551615
theorem Kp0.good_ : Kp0.good := ⟨by simp [Kp0, Hd0], by simp [Kp0, Hd0], by simp [Kp0]⟩
theorem ksnapE_mem {k : Kp} {s : Sn} {e : En} (h : e ∈ ksnapE k s) : e ∈ k.ents := by
  unfold ksnapE at h
  split at h
  · exact List.mem_of_mem_drop h
  · cases h
theorem Kp.good.one {k : Kp} (h : k.good) {r : Rec} (hr : r.wide) (hm : may r = true) : (kone k r).good := by
  unfold kone
  split
  · rename_i h1
    unfold may at hm
    rw [if_pos h1] at hm
    simp only [Bool.and_eq_true, decide_eq_true_eq] at hm
    exact ⟨hm.1, hm.2, h.es⟩
  · split
    · refine ⟨h.v0, h.v1, fun e he => ?_⟩
      rcases List.mem_append.1 he with he | he
      · exact h.es e he
      · rw [List.mem_singleton.1 he]
        exact ⟨hr.e0, hr.e1⟩
    · split
      · exact ⟨h.v0, h.v1, fun e he => h.es e (List.mem_of_mem_take he)⟩
      · split
        · unfold ksnap
          split
          · exact h
          · exact ⟨h.v0, h.v1, fun e he => h.es e (ksnapE_mem he)⟩
        · exact h
theorem Kp.good.fold : ∀ (l : List Rec) {k : Kp}, k.good → (∀ r ∈ l, r.wide ∧ may r = true) → (kfold k l).good
  | [], _, h, _ => h
  | r :: l, _, h, hr => Kp.good.fold l (h.one (hr r List.mem_cons_self).1 (hr r List.mem_cons_self).2) fun q hq => hr q (List.mem_cons_of_mem _ hq)
theorem kone_fixr (k : Kp) (r : Rec) : kone k (fixr r) = kone k r := by
  unfold fixr
  split
  · rename_i h; simp [kone, h]
  · split
    · rename_i h; simp [kone, h]
    · split
      · rename_i h; simp [kone, h]
      · split
        · rename_i h; simp [kone, h]
        · rename_i h1 h2 h3 h4; simp [kone, h1, h2, h3, h4]
theorem kfold_right : ∀ (l : List Rec) (k : Kp), (∀ r ∈ l, may r = true) → kfold k (right l) = kfold k l
  | [], _, _ => rfl
  | r :: l, k, h => by
    unfold right
    rw [if_pos (h r List.mem_cons_self), kfold_cons, kfold_cons, kone_fixr]
    exact kfold_right l _ fun q hq => h q (List.mem_cons_of_mem _ hq)
theorem krecs_may {k : Kp} (h : k.good) : ∀ r ∈ krecs k, may r = true := by
  intro r hr
  unfold krecs at hr
  rcases List.mem_cons.1 hr with rfl | hr
  · simp [may, rHard, h.v0, h.v1]
  · rcases List.mem_append.1 hr with hr | hr
    · split at hr
      · cases hr
      · rw [List.mem_singleton.1 hr]; simp [may, rSnap]
    · obtain ⟨e, -, rfl⟩ := List.mem_map.1 hr
      simp [may, rEnt]
/-- a disk that lives, whole, of at most n records, that come to k -/
def Dk.whole (d : Dk) (k : Kp) (n : Nat) : Prop := ∃ m : List Rec, d.live (lput m) ∧ (∀ r ∈ m, (r.wide ∧ r.small) ∧ may r = true) ∧ m.length ≤ n ∧ kfold Kp0 m = k
theorem whole_new : Dk.new.whole Kp0 0 := ⟨[], live_new, by simp, Nat.le_refl _, rfl⟩
theorem Dk.whole.kp {d : Dk} {k : Kp} {n : Nat} (h : d.whole k n) : k.sound ∧ k.wide ∧ k.small n ∧ k.good := by
  obtain ⟨m, -, h2, h3, rfl⟩ := h
  exact ⟨Kp.sound.fold m Kp0.sound_, Kp.wide.fold m Kp0.wide_ fun r hr => (h2 r hr).1.1, (Kp.small.fold m Kp0.small_ fun r hr => (h2 r hr).1.2).mono (by omega), Kp.good.fold m Kp0.good_ fun r hr => ⟨(h2 r hr).1.1, (h2 r hr).2⟩⟩
theorem Dk.whole.open_ {d : Dk} {k : Kp} {n : Nat} (h : d.whole k n) : openD d = (d, 0) ∧ kfold Kp0 (scan d.b).1 = k ∧ (∀ r ∈ (scan d.b).1, r.small) ∧ (scan d.b).1.length ≤ n ∧ d.b.length ≤ 85 * n ∧ d.de = false ∧ d.sy = d.b.length := by
  obtain ⟨m, h1, h2, h3, rfl⟩ := h
  obtain ⟨h4, h5⟩ := h1.open_ fun r hr => (h2 r hr).1
  have h6 := lput_len (l := m) fun r hr => (h2 r hr).1.2
  refine ⟨h4, by rw [h5]; exact kfold_right m _ fun r hr => (h2 r hr).2, ?_, ?_, by rw [h1.b]; omega, h1.de, by rw [h1.sy, h1.b]⟩
  · rw [h5]
    exact fun r hr => (right_mem (fun r hr => (h2 r hr).1) r hr).2.2.2
  · rw [h5]
    exact Nat.le_trans (right_len m) h3
theorem Dk.whole.save_ {d : Dk} {k : Kp} {n : Nat} (h : d.whole k n) {l : List Rec} (hl : ∀ r ∈ l, (r.wide ∧ r.small) ∧ may r = true) (hn : n + l.length ≤ 1000) :
    (save d k l).2 = (kfold k l, 0) ∧ (save d k l).1.whole (kfold k l) (n + l.length + 2) := by
  have hk := h.kp
  obtain ⟨m, h1, h2, h3, h4⟩ := h
  have h6 := lput_len (l := m) fun r hr => (h2 r hr).1.2
  have h7 := lput_len (l := l) fun r hr => (hl r hr).1.2
  by_cases hne : l = []
  · subst hne
    have : save d k [] = (d, k, 0) := by unfold save; rw [if_pos rfl]
    rw [this]
    exact ⟨rfl, m, h1, h2, by omega, h4⟩
  · by_cases hs : l.any isSnap = true
    · have gk := Kp.good.fold l hk.2.2.2 fun r hr => ⟨(hl r hr).1.1, (hl r hr).2⟩
      have sk := Kp.sound.fold l hk.1
      have wk := Kp.wide.fold l hk.2.1 fun r hr => (hl r hr).1.1
      have mk := Kp.small.fold l hk.2.2.1 fun r hr => (hl r hr).1.2
      have hr := krecs_small mk wk gk.es
      have h8 := lput_len fun r h => (hr.1 r h).2
      have h9 := hr.2
      obtain ⟨e1, e2⟩ := save_snap (k := k) h1 hs (by omega)
      exact ⟨e1, _, e2, fun r h => ⟨hr.1 r h, krecs_may gk r h⟩, h9, kfold_recs sk⟩
    · obtain ⟨e1, e2⟩ := save_live (k := k) h1 hne (by simpa using hs) (by omega)
      rw [← lput_app] at e2
      refine ⟨e1, _, e2, fun r hr => ?_, by simp; omega, by rw [kfold_app, h4]⟩
      rcases List.mem_append.1 hr with hr | hr
      · exact h2 r hr
      · exact hl r hr
end Go.Proofs.Ytboncnlcomeahaa

/- The law StoreAgain's walk. -/
namespace Go.Proofs.Ytboncnlcomeahaa
set_option linter.unusedVariables false
set_option linter.unusedSimpArgs false
set_option linter.unnecessarySimpa false
set_option maxRecDepth 100000
open Go.RowKit
theorem Nw.ext {w0 w w' : World} {v : Value} {l : Bytes} (h : Nw w0 w v l) (hx : Ext w w') : Nw w0 w' v l := own_ext h hx
set_option maxHeartbeats 12800000 in
theorem storeAgain_walk (xl : Value) (l : List Rec) (n : Int) (w : World) (hl : Enc.Sl reE w noneAt xl l) (hn : 0 ≤ n ∧ n ≤ 255) :
    Calls Try.prog 9 #[xl, .int .u8 n] w fun e w' => e = .returned (.bool true) ∧ Ext w w' := by
  have HO1 := hide (fun (W : World) (g : Nat) hD => open_b g (.slice none 0 0) Dk.new 0 W hD rfl (fun j h => by cases h) (by rw [show Dk.new.b = [] from rfl, scan_nil]; simp) (by rw [show Dk.new.b = [] from rfl, scan_nil]; simp) (by omega) (by simp [Dk.new]))
  rw [show openD Dk.new = (Dk.new, 0) by unfold openD; rw [show Dk.new.b = [] from rfl, scan_nil]; rfl, show kfold Kp0 (scan Dk.new.b).1 = Kp0 by rw [show Dk.new.b = [] from rfl, scan_nil]; rfl] at HO1
  obtain ⟨k1, hk1⟩ : ∃ k, Kp0 = k := ⟨_, rfl⟩
  rw [hk1] at HO1
  have hs1 : k1.small 0 := by rw [← hk1]; exact Kp0.small_
  have HK1 := hide hk1
  clear hk1
  obtain ⟨Ax, cx, rfl, -, -⟩ := hl.form
  have hwl : ∀ r ∈ l, r.wide := Sl.wides hl
  go_enter Try.func9, Try.ntmps9
  go_wp2_with fail
  refine (begun23_b w).mono ?_
  rintro e w1 ⟨rfl, hx⟩
  go_wp2_with fail
  refine (plain_b (.slice Ax l.length cx) l w1 (hl.ext hx)).mono ?_
  rintro e w2 ⟨b, rfl, hx_, hp_⟩
  cases b with
  | false =>
    go_wp2
    go_ret
    exact ⟨rfl, hx.trans' hx_⟩
  | true =>
  have hp := hp_ rfl
  replace hx := hx.trans' hx_
  clear hx_ hp_
  have hll : ∀ r ∈ l, (r.wide ∧ r.small) ∧ may r = true := fun r hr => ⟨⟨hwl r hr, hp.small r hr⟩, hp.may r hr⟩
  have hlen := hp.len
  clear hp hwl
  go_wp2_with fail
  refine (disk_new w2).mono ?_
  rintro e w3 ⟨rfl, hw3⟩
  have hD := new_at w2
  rw [← hw3] at hD
  have hx3 : Ext w w3 := by rw [hw3]; exact hx.trans' ((Ext.rfl' _).alloc' _)
  obtain ⟨gd, hgd⟩ : ∃ g, w2.heap.size = g := ⟨_, rfl⟩
  rw [hgd] at hD ⊢
  have hgdw : w.heap.size ≤ gd := by have := hx.size; omega
  clear hw3 hgd hx
  go_wp2_with fail
  refine (HO1.out w3 gd hD).mono ?_
  rintro e w4 (⟨-, gs, v4, As, cs, Ae, ce, Am, cm, Bm, dm, rfl, hS, hgs, hb2, he2, hc2⟩ | ⟨h, -⟩)
  case inr => exact absurd rfl h
  have hgsw : w.heap.size ≤ gs := by have := hx3.size; omega
  have hx4 : Ext w w4 := hx3.then_ hc2 (by simpa using hgdw)
  clear hD hc2 hb2 he2 hx3
  obtain ⟨g3, hg3⟩ : ∃ g, w4.heap.size = g := ⟨_, rfl⟩
  have hz : Ext w4 (w4.alloc (.cells #[.int .u64 k1.hard.term, .int .i64 k1.hard.vote, .int .u64 k1.snap.index, .int .u64 k1.snap.term, .slice Am k1.snap.state.length cm, .slice Bm k1.ents.length dm] 33)) := (Ext.rfl' _).alloc' _
  go_upto_region 7 with fail
  try rw [hg3]
  generalize (w4.alloc (.cells #[.int .u64 k1.hard.term, .int .i64 k1.hard.vote, .int .u64 k1.snap.index, .int .u64 k1.snap.term, .slice Am k1.snap.state.length cm, .slice Bm k1.ents.length dm] 33)) = w5 at *
  replace hS := hS.ext hz
  have hx5 := hx4.trans' hz
  clear hz hg3 hx4
  obtain ⟨hsv, hwh⟩ := whole_new.save_ hll (by omega)
  have hkp := hwh.kp
  obtain ⟨ho1, ho2, ho3, ho4, ho5, ho6, ho7⟩ := hwh.open_
  rw [HK1.out] at hsv hwh hkp ho1 ho2 ho3 ho4 ho5 ho6 ho7
  obtain ⟨⟨d1, kx, ex⟩, hq1⟩ : ∃ q, save Dk.new k1 l = q := ⟨_, rfl⟩
  rw [hq1] at hsv hwh ho1 ho2 ho3 ho4 ho5 ho6 ho7
  simp only at hsv hwh ho1 ho2 ho3 ho4 ho5 ho6 ho7
  obtain ⟨h1_, rfl⟩ := Prod.mk.inj hsv
  rw [← h1_] at hkp ho2
  have HQ1 := hide hq1
  have hkw := hkp.2.1
  have hks : kx.small 22 := hkp.2.2.1.mono (by omega)
  have HO := hide (fun (W : World) v hD hv => open_b gd v d1 22 W hD ho6 hv ho3 (by omega) (by omega) (by omega))
  rw [ho1, HK1.out, ho2] at HO
  have HSY := hide ho7
  clear hq1 hsv h1_ hwh hkp ho1 ho2 ho3 ho4 ho5 ho7
  go_wp2_with fail
  refine (save_b gs gd k1 Dk.new v4 As Ae cs ce (.slice Ax l.length cx) l 0 _ hS hs1 ((hl.mono (Y := XS gs gd) (fun j hj h => by rcases h with h | h <;> omega)).ext hx5) (fun r hr => (hll r hr).1) (by omega)).mono ?_
  rintro e w6 ⟨v6, As6, cs6, Ae6, ce6, rfl, hS6, hc6⟩
  rw [HQ1.out] at hS6
  rw [show (save Dk.new k1 l).2.2 = 0 by rw [HQ1.out]]
  simp only at hS6
  have hx6 : Ext w w6 := hx5.then_ hc6 (fun j hj => by simp at hj; rcases hj with h | h <;> omega)
  clear hS hc6 hx5
  go_wp2_with fail
  refine (disk_read gd v6 d1 w6 hS6.disk ho6).mono ?_
  rintro e w7 ⟨y, rfl, hy, hx7⟩
  obtain ⟨Ay, cy, rfl, -, -, -⟩ := id hy.bs
  have hS7 := hS6.ext hx7
  have hxx := hx6.trans' hx7
  have hgdW : gd < w6.heap.size := hS6.disk.blk.lt
  clear hS6 hx6 hx7
  go_wp2_with fail
  obtain ⟨hnl, hnh⟩ := hn
  go_loopw [11] (fun vi wr => ∃ i : Int, 0 ≤ i ∧ i ≤ 4 ∧ vi = .int .i64 i ∧ SoAt wr gs gd kx As6 cs6 Ae6 ce6 ∧ (∃ v, DiskAt wr gd v d1 ∧ ∀ j, v.ownBlock = some j → j < wr.heap.size) ∧ Nw w6 wr (.slice Ay d1.b.length cy) d1.b ∧ Ext w wr) (fun vi _ => (4 - intOf vi).toNat)
  case atStart => exact ⟨0, by omega, by omega, rfl, hS7.so, ⟨v6, hS7.disk, hS7.lt⟩, hy, hxx⟩
  case round =>
    obtain ⟨i, hi0, hi4, rfl, hSo, ⟨vd, hDd, hvd⟩, hyr, hxr⟩ := hrel
    have hne := hS7.ne
    by_cases hlt : i ≤ n % 4
    · have hlt_ : i ≤ n.tmod 4 := by rw [Int.tmod_eq_emod_of_nonneg hnl]; exact hlt
      go_wp2_with fail
      refine (HO.out wr vd hDd hvd).mono ?_
      rintro e wr2 (⟨-, gt, vt, At_, ct_, Aet, cet, At, ct, Bt, dt, rfl, hSt, hgt, hbt, het, hct⟩ | ⟨h, -⟩)
      case inr => exact absurd rfl h
      replace hSo := hSo.chg hct hne
      replace hyr := hyr.chg hct (fun j hj h => by have := (hyr.lt j hj).1; have := List.mem_singleton.1 h; omega)
      replace hxr := hxr.then_ hct (by simpa using hgdw)
      obtain ⟨gk, hgk⟩ : ∃ g, wr2.heap.size = g := ⟨_, rfl⟩
      have hQ := Blk.new wr2 33 #[.int .u64 kx.hard.term, .int .i64 kx.hard.vote, .int .u64 kx.snap.index, .int .u64 kx.snap.term, .slice At kx.snap.state.length ct, .slice Bt kx.ents.length dt]
      rw [hgk] at hQ
      have hz : Ext wr2 (wr2.alloc (.cells #[.int .u64 kx.hard.term, .int .i64 kx.hard.vote, .int .u64 kx.snap.index, .int .u64 kx.snap.term, .slice At kx.snap.state.length ct, .slice Bt kx.ents.length dt] 33)) := (Ext.rfl' _).alloc' _
      clear hct hDd hvd
      go_upto_region 14 with fail
      try rw [hgk]
      generalize (wr2.alloc (.cells #[.int .u64 kx.hard.term, .int .i64 kx.hard.vote, .int .u64 kx.snap.index, .int .u64 kx.snap.term, .slice At kx.snap.state.length ct, .slice Bt kx.ents.length dt] 33)) = wr4 at *
      replace hSo := hSo.ext hz
      replace hyr := Nw.ext hyr hz
      replace hxr := hxr.trans' hz
      replace hSt := hSt.ext hz
      replace hbt := hbt.ext hz
      replace het := het.ext hz
      have hDt := hSt.disk
      have hvt := hSt.lt
      have hSt := hSt.so
      clear hz hgk
      have hgdR : gd < wr4.heap.size := hDt.blk.lt
      refine Rg.regionT Try.checked.mixed 100 20 (by kernel_rfl) [
        (fun x_ _ => x_ = .int .i64 0),
        (fun x_ _ => x_ = .bool false),
        (fun x_ _ => x_ = .bool false),
        (fun x_ _ => x_ = .pointer (some ⟨gt, 0, none⟩)),
        (fun x_ _ => x_ = .bool false),
        (fun x_ _ => x_ = .bool false),
        (fun x_ _ => x_ = .bool false),
        (fun x_ _ => x_ = .agg #[.int .u64 kx.hard.term, .int .i64 kx.hard.vote, .int .u64 kx.snap.index, .int .u64 kx.snap.term, .slice At kx.snap.state.length ct, .slice Bt kx.ents.length dt]),
        (fun x_ _ => x_ = .pointer (some ⟨gs, 0, none⟩)),
        (fun v W => ∃ A c B d, v = .agg #[.int .u64 kx.hard.term, .int .i64 kx.hard.vote, .int .u64 kx.snap.index, .int .u64 kx.snap.term, .slice A kx.snap.state.length c, .slice B kx.ents.length d] ∧ Bs W (.slice A kx.snap.state.length c) kx.snap.state ∧ Enc.Sl enE W noneAt (.slice B kx.ents.length d) kx.ents),
        (fun x_ _ => x_ = .bool true),
        (fun x_ _ => x_ = .bool false),
        (fun x_ _ => x_ = .bool false),
        (fun x_ _ => x_ = .bool false),
        (fun x_ _ => x_ = .pointer (some ⟨gt, 0, none⟩)),
        (fun v W => ∃ A c B d, v = .agg #[.int .u64 kx.hard.term, .int .i64 kx.hard.vote, .int .u64 kx.snap.index, .int .u64 kx.snap.term, .slice A kx.snap.state.length c, .slice B kx.ents.length d] ∧ Bs W (.slice A kx.snap.state.length c) kx.snap.state ∧ Enc.Sl enE W noneAt (.slice B kx.ents.length d) kx.ents),
        (fun x_ _ => x_ = .agg #[.int .u64 kx.hard.term, .int .i64 kx.hard.vote, .int .u64 kx.snap.index, .int .u64 kx.snap.term, .slice At kx.snap.state.length ct, .slice Bt kx.ents.length dt]),
        (fun x_ _ => x_ = .bool true),
        (fun x_ _ => x_ = .bool false),
        (fun x_ _ => x_ = .bool false)] (fun W => Ext wr4 W) Ext rfl rfl rfl
        ?st ((Ext.rfl' wr4).drew') ?ob ?en
      case st => exact ⟨fun _ _ _ h _ => h, fun _ _ _ h _ => h, fun _ _ _ h _ => h, fun _ _ _ h _ => h, fun _ _ _ h _ => h, fun _ _ _ h _ => h, fun _ _ _ h _ => h, fun _ _ _ h _ => h, fun _ _ _ h _ => h, fun _ _ _ ⟨a1_, a2_, a3_, a4_, h1_, h2_, h3_⟩ hx => ⟨a1_, a2_, a3_, a4_, h1_, h2_.ext hx, h3_.ext hx⟩, fun _ _ _ h _ => h, fun _ _ _ h _ => h, fun _ _ _ h _ => h, fun _ _ _ h _ => h, fun _ _ _ h _ => h, fun _ _ _ ⟨a1_, a2_, a3_, a4_, h1_, h2_, h3_⟩ hx => ⟨a1_, a2_, a3_, a4_, h1_, h2_.ext hx, h3_.ext hx⟩, fun _ _ _ h _ => h, fun _ _ _ h _ => h, fun _ _ _ h _ => h, fun _ _ _ h _ => h, trivial⟩
      case ob =>
        refine ⟨Rg.at_run [14] rfl ?_, ?_⟩
        · intro ρ W hR ⟨q14, _⟩
          replace q14 : ρ 14 = .int .i64 0 := q14
          refine ⟨rfl, ?_⟩
          exact Rg.run_ok (v := .int .i64 0) (by simp [execOp, Rg.ev, go_sem, q14]) ⟨rfl, hR, Ext.rfl' _⟩
        refine ⟨Rg.at_run [59] rfl ?_, ?_⟩
        · intro ρ W hR ⟨q59, _⟩
          replace q59 : ρ 59 = .int .i64 0 := q59
          refine ⟨rfl, ?_⟩
          exact Rg.run_ok (v := .bool false) (by simp [execOp, Rg.ev, go_sem, q59]) ⟨rfl, hR, Ext.rfl' _⟩
        refine ⟨Rg.at_run [60] rfl ?_, ?_⟩
        · intro ρ W hR ⟨q60, _⟩
          replace q60 : ρ 60 = .bool false := q60
          refine ⟨rfl, ?_⟩
          exact Rg.run_ok (v := .bool false) (by simp [execOp, Rg.ev, go_sem, q60]) ⟨rfl, hR, Ext.rfl' _⟩
        refine ⟨Rg.at_run [12, 61] rfl ?_, ?_⟩
        · intro ρ W hR ⟨q12, q61, _⟩
          replace q12 : ρ 12 = .pointer (some ⟨gt, 0, none⟩) := q12
          replace q61 : ρ 61 = .bool false := q61
          refine ⟨by simp [Rg.wants, q61], ?_⟩
          exact Rg.run_ok (v := .pointer (some ⟨gt, 0, none⟩)) (by simp [execOp, Rg.ev, go_sem, q12]) ⟨rfl, hR, Ext.rfl' _⟩
        refine ⟨Rg.at_run [62, 61] rfl ?_, ?_⟩
        · intro ρ W hR ⟨q62, q61, _⟩
          replace q62 : ρ 62 = .pointer (some ⟨gt, 0, none⟩) := q62
          replace q61 : ρ 61 = .bool false := q61
          refine ⟨by simp [Rg.wants, q61], ?_⟩
          exact Rg.run_ok (v := .bool false) (by simp [execOp, Rg.ev, go_sem, q62]) ⟨rfl, hR, Ext.rfl' _⟩
        refine ⟨Rg.at_run [61, 63] rfl ?_, ?_⟩
        · intro ρ W hR ⟨q61, q63, _⟩
          replace q61 : ρ 61 = .bool false := q61
          replace q63 : ρ 63 = .bool false := q63
          refine ⟨rfl, ?_⟩
          exact Rg.run_ok (v := .bool false) (by simp [execOp, Rg.ev, go_sem, q61, q63]) ⟨rfl, hR, Ext.rfl' _⟩
        refine ⟨Rg.at_run [64] rfl ?_, ?_⟩
        · intro ρ W hR ⟨q64, _⟩
          replace q64 : ρ 64 = .bool false := q64
          refine ⟨rfl, ?_⟩
          exact Rg.run_ok (v := .bool false) (by simp [execOp, Rg.ev, go_sem, q64]) ⟨rfl, hR, Ext.rfl' _⟩
        refine ⟨Rg.at_run [13, 65] rfl ?_, ?_⟩
        · intro ρ W hR ⟨q13, q65, _⟩
          replace q13 : ρ 13 = .pointer (some ⟨gk, 0, none⟩) := q13
          replace q65 : ρ 65 = .bool false := q65
          refine ⟨by simp [Rg.wants, q65], ?_⟩
          have c0_ : W.cell? ⟨gk, 0, none⟩ = some (.int .u64 kx.hard.term) := ((hQ.ext hR).cell 0).trans rfl
          have c1_ : W.cell? ⟨gk, 1, none⟩ = some (.int .i64 kx.hard.vote) := ((hQ.ext hR).cell 1).trans rfl
          have c2_ : W.cell? ⟨gk, 2, none⟩ = some (.int .u64 kx.snap.index) := ((hQ.ext hR).cell 2).trans rfl
          have c3_ : W.cell? ⟨gk, 3, none⟩ = some (.int .u64 kx.snap.term) := ((hQ.ext hR).cell 3).trans rfl
          have c4_ : W.cell? ⟨gk, 4, none⟩ = some (.slice At kx.snap.state.length ct) := ((hQ.ext hR).cell 4).trans rfl
          have c5_ : W.cell? ⟨gk, 5, none⟩ = some (.slice Bt kx.ents.length dt) := ((hQ.ext hR).cell 5).trans rfl
          exact Rg.run_ok (v := .agg #[.int .u64 kx.hard.term, .int .i64 kx.hard.vote, .int .u64 kx.snap.index, .int .u64 kx.snap.term, .slice At kx.snap.state.length ct, .slice Bt kx.ents.length dt]) (by simp [execOp, Rg.ev, go_sem, q13, c0_, c1_, c2_, c3_, c4_, c5_]) ⟨rfl, hR, Ext.rfl' _⟩
        refine ⟨Rg.at_run [6, 65] rfl ?_, ?_⟩
        · intro ρ W hR ⟨q6, q65, _⟩
          replace q6 : ρ 6 = .pointer (some ⟨gs, 0, none⟩) := q6
          replace q65 : ρ 65 = .bool false := q65
          refine ⟨by simp [Rg.wants, q65], ?_⟩
          exact Rg.run_ok (v := .pointer (some ⟨gs, 0, none⟩)) (by simp [execOp, Rg.ev, go_sem, q6]) ⟨rfl, hR, Ext.rfl' _⟩
        refine ⟨Rg.at_run [67, 65] rfl ?_, ?_⟩
        · intro ρ W hR ⟨q67, q65, _⟩
          replace q67 : ρ 67 = .pointer (some ⟨gs, 0, none⟩) := q67
          replace q65 : ρ 65 = .bool false := q65
          refine ⟨by simp [Rg.wants, q65], ?_⟩
          refine Rg.enter_fn (args := #[.pointer (some ⟨gs, 0, none⟩)]) rfl (by simp only [List.map_toArray, List.map_cons, List.map_nil, Rg.ev, q67]) (by kernel_rfl) ?_
          refine (kept_b gs gd kx _ _ _ _ 22 W (hSo.ext hR) hkw hks (by omega) (by have h1 := hgdR; have h2 := hR.size; omega)).mono ?_
          rintro e_ w9 ⟨A_, c_, B_, d_, rfl, h1_, h2_, hxx⟩
          exact ⟨_, rfl, ⟨_, _, _, _, rfl, h1_.1, (h2_.sl.mono fun _ _ h => h.elim)⟩, hR.trans' hxx, hxx⟩
        refine ⟨Rg.at_run [66, 68, 65] rfl ?_, ?_⟩
        · intro ρ W hR ⟨q66, q68, q65, _⟩
          replace q66 : ρ 66 = .agg #[.int .u64 kx.hard.term, .int .i64 kx.hard.vote, .int .u64 kx.snap.index, .int .u64 kx.snap.term, .slice At kx.snap.state.length ct, .slice Bt kx.ents.length dt] := q66
          replace q68 : (fun v W => ∃ A c B d, v = .agg #[.int .u64 kx.hard.term, .int .i64 kx.hard.vote, .int .u64 kx.snap.index, .int .u64 kx.snap.term, .slice A kx.snap.state.length c, .slice B kx.ents.length d] ∧ Bs W (.slice A kx.snap.state.length c) kx.snap.state ∧ Enc.Sl enE W noneAt (.slice B kx.ents.length d) kx.ents) (ρ 68) W := q68
          replace q65 : ρ 65 = .bool false := q65
          refine ⟨by simp [Rg.wants, q65], ?_⟩
          obtain ⟨A9, c9, B9, d9, hv9, hb9, hl9⟩ := q68
          refine Rg.enter_fn (args := #[.agg #[.int .u64 kx.hard.term, .int .i64 kx.hard.vote, .int .u64 kx.snap.index, .int .u64 kx.snap.term, .slice At kx.snap.state.length ct, .slice Bt kx.ents.length dt], .agg #[.int .u64 kx.hard.term, .int .i64 kx.hard.vote, .int .u64 kx.snap.index, .int .u64 kx.snap.term, .slice A9 kx.snap.state.length c9, .slice B9 kx.ents.length d9]]) rfl (by simp only [List.map_toArray, List.map_cons, List.map_nil, Rg.ev, q66, hv9]) (by kernel_rfl) ?_
          refine (sameKept_b kx (.slice At kx.snap.state.length ct) (.slice Bt kx.ents.length dt) (.slice A9 kx.snap.state.length c9) (.slice B9 kx.ents.length d9) W (hbt.ext hR) hb9 (het.ext hR) hl9).mono ?_
          rintro e_ w9 ⟨rfl, hxx⟩
          exact ⟨_, rfl, rfl, hR.trans' hxx, hxx⟩
        refine ⟨Rg.at_run [69, 65] rfl ?_, ?_⟩
        · intro ρ W hR ⟨q69, q65, _⟩
          replace q69 : ρ 69 = .bool true := q69
          replace q65 : ρ 65 = .bool false := q65
          refine ⟨by simp [Rg.wants, q65], ?_⟩
          exact Rg.run_ok (v := .bool false) (by simp [execOp, Rg.ev, go_sem, q69]) ⟨rfl, hR, Ext.rfl' _⟩
        refine ⟨Rg.at_run [65, 70] rfl ?_, ?_⟩
        · intro ρ W hR ⟨q65, q70, _⟩
          replace q65 : ρ 65 = .bool false := q65
          replace q70 : ρ 70 = .bool false := q70
          refine ⟨rfl, ?_⟩
          exact Rg.run_ok (v := .bool false) (by simp [execOp, Rg.ev, go_sem, q65, q70]) ⟨rfl, hR, Ext.rfl' _⟩
        refine ⟨Rg.at_run [71] rfl ?_, ?_⟩
        · intro ρ W hR ⟨q71, _⟩
          replace q71 : ρ 71 = .bool false := q71
          refine ⟨rfl, ?_⟩
          exact Rg.run_ok (v := .bool false) (by simp [execOp, Rg.ev, go_sem, q71]) ⟨rfl, hR, Ext.rfl' _⟩
        refine ⟨Rg.at_run [12, 72] rfl ?_, ?_⟩
        · intro ρ W hR ⟨q12, q72, _⟩
          replace q12 : ρ 12 = .pointer (some ⟨gt, 0, none⟩) := q12
          replace q72 : ρ 72 = .bool false := q72
          refine ⟨by simp [Rg.wants, q72], ?_⟩
          exact Rg.run_ok (v := .pointer (some ⟨gt, 0, none⟩)) (by simp [execOp, Rg.ev, go_sem, q12]) ⟨rfl, hR, Ext.rfl' _⟩
        refine ⟨Rg.at_run [73, 72] rfl ?_, ?_⟩
        · intro ρ W hR ⟨q73, q72, _⟩
          replace q73 : ρ 73 = .pointer (some ⟨gt, 0, none⟩) := q73
          replace q72 : ρ 72 = .bool false := q72
          refine ⟨by simp [Rg.wants, q72], ?_⟩
          refine Rg.enter_fn (args := #[.pointer (some ⟨gt, 0, none⟩)]) rfl (by simp only [List.map_toArray, List.map_cons, List.map_nil, Rg.ev, q73]) (by kernel_rfl) ?_
          refine (kept_b gt gd kx _ _ _ _ 22 W (hSt.ext hR) hkw hks (by omega) (by have h1 := hgdR; have h2 := hR.size; omega)).mono ?_
          rintro e_ w9 ⟨A_, c_, B_, d_, rfl, h1_, h2_, hxx⟩
          exact ⟨_, rfl, ⟨_, _, _, _, rfl, h1_.1, (h2_.sl.mono fun _ _ h => h.elim)⟩, hR.trans' hxx, hxx⟩
        refine ⟨Rg.at_run [13, 72] rfl ?_, ?_⟩
        · intro ρ W hR ⟨q13, q72, _⟩
          replace q13 : ρ 13 = .pointer (some ⟨gk, 0, none⟩) := q13
          replace q72 : ρ 72 = .bool false := q72
          refine ⟨by simp [Rg.wants, q72], ?_⟩
          have c0_ : W.cell? ⟨gk, 0, none⟩ = some (.int .u64 kx.hard.term) := ((hQ.ext hR).cell 0).trans rfl
          have c1_ : W.cell? ⟨gk, 1, none⟩ = some (.int .i64 kx.hard.vote) := ((hQ.ext hR).cell 1).trans rfl
          have c2_ : W.cell? ⟨gk, 2, none⟩ = some (.int .u64 kx.snap.index) := ((hQ.ext hR).cell 2).trans rfl
          have c3_ : W.cell? ⟨gk, 3, none⟩ = some (.int .u64 kx.snap.term) := ((hQ.ext hR).cell 3).trans rfl
          have c4_ : W.cell? ⟨gk, 4, none⟩ = some (.slice At kx.snap.state.length ct) := ((hQ.ext hR).cell 4).trans rfl
          have c5_ : W.cell? ⟨gk, 5, none⟩ = some (.slice Bt kx.ents.length dt) := ((hQ.ext hR).cell 5).trans rfl
          exact Rg.run_ok (v := .agg #[.int .u64 kx.hard.term, .int .i64 kx.hard.vote, .int .u64 kx.snap.index, .int .u64 kx.snap.term, .slice At kx.snap.state.length ct, .slice Bt kx.ents.length dt]) (by simp [execOp, Rg.ev, go_sem, q13, c0_, c1_, c2_, c3_, c4_, c5_]) ⟨rfl, hR, Ext.rfl' _⟩
        refine ⟨Rg.at_run [74, 75, 72] rfl ?_, ?_⟩
        · intro ρ W hR ⟨q74, q75, q72, _⟩
          replace q74 : (fun v W => ∃ A c B d, v = .agg #[.int .u64 kx.hard.term, .int .i64 kx.hard.vote, .int .u64 kx.snap.index, .int .u64 kx.snap.term, .slice A kx.snap.state.length c, .slice B kx.ents.length d] ∧ Bs W (.slice A kx.snap.state.length c) kx.snap.state ∧ Enc.Sl enE W noneAt (.slice B kx.ents.length d) kx.ents) (ρ 74) W := q74
          replace q75 : ρ 75 = .agg #[.int .u64 kx.hard.term, .int .i64 kx.hard.vote, .int .u64 kx.snap.index, .int .u64 kx.snap.term, .slice At kx.snap.state.length ct, .slice Bt kx.ents.length dt] := q75
          replace q72 : ρ 72 = .bool false := q72
          refine ⟨by simp [Rg.wants, q72], ?_⟩
          obtain ⟨A9, c9, B9, d9, hv9, hb9, hl9⟩ := q74
          refine Rg.enter_fn (args := #[.agg #[.int .u64 kx.hard.term, .int .i64 kx.hard.vote, .int .u64 kx.snap.index, .int .u64 kx.snap.term, .slice A9 kx.snap.state.length c9, .slice B9 kx.ents.length d9], .agg #[.int .u64 kx.hard.term, .int .i64 kx.hard.vote, .int .u64 kx.snap.index, .int .u64 kx.snap.term, .slice At kx.snap.state.length ct, .slice Bt kx.ents.length dt]]) rfl (by simp only [List.map_toArray, List.map_cons, List.map_nil, Rg.ev, hv9, q75]) (by kernel_rfl) ?_
          refine (sameKept_b kx (.slice A9 kx.snap.state.length c9) (.slice B9 kx.ents.length d9) (.slice At kx.snap.state.length ct) (.slice Bt kx.ents.length dt) W hb9 (hbt.ext hR) hl9 (het.ext hR)).mono ?_
          rintro e_ w9 ⟨rfl, hxx⟩
          exact ⟨_, rfl, rfl, hR.trans' hxx, hxx⟩
        refine ⟨Rg.at_run [76, 72] rfl ?_, ?_⟩
        · intro ρ W hR ⟨q76, q72, _⟩
          replace q76 : ρ 76 = .bool true := q76
          replace q72 : ρ 72 = .bool false := q72
          refine ⟨by simp [Rg.wants, q72], ?_⟩
          exact Rg.run_ok (v := .bool false) (by simp [execOp, Rg.ev, go_sem, q76]) ⟨rfl, hR, Ext.rfl' _⟩
        refine ⟨Rg.at_run [72, 77] rfl ?_, ?_⟩
        · intro ρ W hR ⟨q72, q77, _⟩
          replace q72 : ρ 72 = .bool false := q72
          replace q77 : ρ 77 = .bool false := q77
          refine ⟨rfl, ?_⟩
          exact Rg.run_ok (v := .bool false) (by simp [execOp, Rg.ev, go_sem, q72, q77]) ⟨rfl, hR, Ext.rfl' _⟩
        trivial
      case en =>
        intro tm W hR hsz hk
        rw [Rg.fin_eq (ds := [59, 60, 61, 62, 63, 64, 65, 66, 67, 68, 69, 70, 71, 72, 73, 74, 75, 76, 77, 78]) rfl rfl rfl hsz hk]
        have k59 : tm.getD 59 undef = .int .i64 0 := hk 59
        have k60 : tm.getD 60 undef = .bool false := hk 60
        have k61 : tm.getD 61 undef = .bool false := hk 61
        have k62 : tm.getD 62 undef = .pointer (some ⟨gt, 0, none⟩) := hk 62
        have k63 : tm.getD 63 undef = .bool false := hk 63
        have k64 : tm.getD 64 undef = .bool false := hk 64
        have k65 : tm.getD 65 undef = .bool false := hk 65
        have k66 : tm.getD 66 undef = .agg #[.int .u64 kx.hard.term, .int .i64 kx.hard.vote, .int .u64 kx.snap.index, .int .u64 kx.snap.term, .slice At kx.snap.state.length ct, .slice Bt kx.ents.length dt] := hk 66
        have k67 : tm.getD 67 undef = .pointer (some ⟨gs, 0, none⟩) := hk 67
        have k68 : (fun v W => ∃ A c B d, v = .agg #[.int .u64 kx.hard.term, .int .i64 kx.hard.vote, .int .u64 kx.snap.index, .int .u64 kx.snap.term, .slice A kx.snap.state.length c, .slice B kx.ents.length d] ∧ Bs W (.slice A kx.snap.state.length c) kx.snap.state ∧ Enc.Sl enE W noneAt (.slice B kx.ents.length d) kx.ents) (tm.getD 68 undef) W := hk 68
        have k69 : tm.getD 69 undef = .bool true := hk 69
        have k70 : tm.getD 70 undef = .bool false := hk 70
        have k71 : tm.getD 71 undef = .bool false := hk 71
        have k72 : tm.getD 72 undef = .bool false := hk 72
        have k73 : tm.getD 73 undef = .pointer (some ⟨gt, 0, none⟩) := hk 73
        have k74 : (fun v W => ∃ A c B d, v = .agg #[.int .u64 kx.hard.term, .int .i64 kx.hard.vote, .int .u64 kx.snap.index, .int .u64 kx.snap.term, .slice A kx.snap.state.length c, .slice B kx.ents.length d] ∧ Bs W (.slice A kx.snap.state.length c) kx.snap.state ∧ Enc.Sl enE W noneAt (.slice B kx.ents.length d) kx.ents) (tm.getD 74 undef) W := hk 74
        have k75 : tm.getD 75 undef = .agg #[.int .u64 kx.hard.term, .int .i64 kx.hard.vote, .int .u64 kx.snap.index, .int .u64 kx.snap.term, .slice At kx.snap.state.length ct, .slice Bt kx.ents.length dt] := hk 75
        have k76 : tm.getD 76 undef = .bool true := hk 76
        have k77 : tm.getD 77 undef = .bool false := hk 77
        have k78 : tm.getD 78 undef = .bool false := hk 78
        clear hk hsz
        simp only [Rg.putAll, List.setIfInBounds_toArray, List.set_cons_zero, List.set_cons_succ, k59, k60, k61, k62, k63, k64, k65, k66, k67, k69, k70, k71, k72, k73, k75, k76, k77, k78]
        clear k59
        clear k60
        clear k61
        clear k62
        clear k63
        clear k64
        clear k65
        clear k66
        clear k67
        generalize tm.getD 68 undef = u68 at *
        clear k69
        clear k70
        clear k71
        clear k72
        clear k73
        generalize tm.getD 74 undef = u74 at *
        clear k75
        clear k76
        clear k77
        clear k78
        refine Rg.nil_list ?_

        clear k68 k74
        go_wp2_with fail
        go_roundw
        case rel => exact ⟨i + 1, by omega, by omega, by go_num, hSo.ext hR, ⟨vt, hDt.ext hR, fun j hj => Nat.lt_of_lt_of_le (hvt j hj) hR.size⟩, Nw.ext hyr hR, hxr.trans' hR⟩
        case measure => simp [intOf]; omega
    · have hlt_ : ¬ i ≤ n.tmod 4 := by rw [Int.tmod_eq_emod_of_nonneg hnl]; exact hlt
      go_wp2_with fail
      refine (disk_read gd vd d1 wr hDd ho6).mono ?_
      rintro e w8 ⟨z, rfl, hz, hx8⟩
      obtain ⟨Az, cz, rfl, -, -, -⟩ := id hz.bs
      have s1 := run_str (P := Try.prog) hz.bs Try.underlying28 Try.underlying5 Try.underlying9
      have s2 := run_str (P := Try.prog) (hyr.bs.ext hx8) Try.underlying28 Try.underlying5 Try.underlying9
      have esy : (d1.sy == (d1.b.length : Int)) = true := by rw [HSY.out]; exact beq_self_eq_true _
      go_wp2_with fail
      refine (disk_synced gd vd d1 w8 (hDd.ext hx8)).mono ?_
      rintro e w9 ⟨rfl, rfl⟩
      go_wp2_with fail
      go_ret
      exact ⟨rfl, hxr.trans' hx8⟩
end Go.Proofs.Ytboncnlcomeahaa

/- The statement 'StoreAgainSaid': whatever is handed in, the law answers true, and what was handed in is as it was. -/
namespace Go.Proofs.Ytboncnlcomeahaa.storeAgain
set_option linter.unusedVariables false
set_option linter.unusedSimpArgs false
set_option linter.unnecessarySimpa false
set_option maxRecDepth 100000
open Go.ChangeShapes Go.WideShapes Go.ChangeAt Go.RowKit
open Go.ChangeMaps (open_string shut_string)

set_option maxRecDepth 100000 in
set_option maxHeartbeats 2000000 in
theorem lifted (os : Os) (started : os.Started) (H : Type) (enc : TypeId × Value → H) :
    ReturnsInHanded {} Try.checked os 9 .any (Rows.storeAgainSpec.pre6 enc Try.prog Try.f9 Rows.storeAgainRow.domain false) (Rows.storeAgainSpec.post enc Try.prog Try.f9 false true false false) := by
  refine returnsInHanded_of_change (C := Try.checked) own started (by kernel_rfl) Try.func9
    (ChangeSpec.witness6 (enc := enc) (C := Try.checked) false ⟨#[], #[.slice none 0 0, .int .u8 0], []⟩ 8 (by kernel_rfl) (by kernel_rfl) (by kernel_rfl) (by kernel_rfl)) ?_
  intro W base args ds gs before hval0 hW hcnd _
  have hval : ∀ (j : Nat) t v, Try.f9.params[j]? = some t → args[j]? = some v → Value.okWide Try.prog W .any base t v := hval0
  have hW' := hW
  obtain ⟨p, q, hA0, hV, rfl, hfz, hnd⟩ := hW
  have hA : DataW.TrodAll enc Try.prog W 0 (fun _ => true) true Try.f9.params.toList args.toList ds p := hA0
  rw [Try.params9] at hA hval
  obtain ⟨v0, vs0, d0, ds0, p0, q0, hargs, rfl, rfl, h0, r0⟩ := trodAll_cons hA
  obtain ⟨v1, vs1, d1, ds1, p1, q1, rfl, rfl, rfl, h1, r1⟩ := trodAll_cons r0
  obtain ⟨rfl, rfl, rfl⟩ := trodAll_nil r1
  obtain rfl : args = #[v0, v1] := by cases args; simp_all
  obtain ⟨rfl, rfl⟩ := trodVars_none hV
  have k0 := h0
  have lt0 : ∀ x ∈ p0, x.block < W.heap.size := by obtain ⟨m, hm⟩ := k0; exact DataW.trod_lt m _ _ _ hm
  obtain ⟨a0, len0, cap0, rfl⟩ := okWide_slice Try.underlying22 (hval 0 22 v0 rfl rfl)
  obtain ⟨b0, hb0⟩ : ∃ b, Enc.Sl reE W noneAt (.slice a0 len0 cap0) b := by
    obtain ⟨fuel, hf⟩ := h0
    obtain ⟨b, v, hv, hs⟩ := (Enc.opens_slice Try.underlying22 (by kernel_rfl) (by decide) reE_opens) _ enc W fuel _ _ hf
    obtain rfl : Value.slice a0 len0 cap0 = v := by simpa [Value.cells] using hv
    exact ⟨b, hs⟩
  obtain ⟨a1, rfl, rfl, rfl, w1⟩ := open_int Try.underlying5 (hval 1 5 v1 rfl rfl) h1
  have i1 := w1
  simp [Lit.wf, IntKind.min, IntKind.max, IntKind.bits, IntKind.signed] at i1
  clear hA0 hval0
  refine (storeAgain_walk _ b0 a1 W hb0 i1).mono fun e W' ⟨he, bel⟩ => ?_
  subst he
  exact ⟨_, rfl, _, _, _, [], _, [], hW', trodAll_mk1 (shut_bool Try.underlying4 _), (trodAll_cons_mk (Below.trod laidOut (by kernel_rfl) (of_decide_eq_true (by kernel_rfl)) k0 bel lt0) (trodAll_cons_mk (shut_int Try.underlying5 w1) trodAll_mk0)), rfl, bel.frame _, fun h => by cases h⟩

theorem over : Rows.storeAgainRow.holds Try.pinned (OpenSpec.ofChange Rows.storeAgainSpec) :=
  OpenClaim.holds_of_wide 9 Try.f9 rfl rfl rfl rfl rfl rfl rfl ⟨rfl, rfl, rfl, rfl, rfl⟩ rfl rfl rfl rfl rfl (by kernel_rfl) Try.func9 (by kernel_rfl)
    (of_decide_eq_true (by kernel_rfl)) (by unfold Func.isWrapper; first | (rw [if_pos (by decide +kernel)]; kernel_rfl) | (rw [if_neg (by decide +kernel)]; exact ⟨rfl, rfl⟩))
    (fun os started H enc _ => lifted os started H enc)

/-- THE STATEMENT -/
theorem proved : Rows.StoreAgainSaid := over
#print axioms proved
end Go.Proofs.Ytboncnlcomeahaa.storeAgain

