import Derived.Test.YtboncnlcomeahaaPk32
import Derived.Test.YtboncnlcomeahaaPk33
import Derived.Test.YtboncnlcomeahaaPk7
/- Stores: a disk that lives and is whole, in plain Lean. -/
namespace Go.Proofs.Ytboncnlcomeahaa
set_option linter.unusedVariables false
set_option linter.unusedSimpArgs false
set_option linter.unnecessarySimpa false
set_option maxRecDepth 100000
open Go.RowKit
/-- what is known keeps votes and terms that may be -/
structure Kp.good (k : Kp) : Prop where
  v0 : 0 ≤ k.hard.vote
  v1 : k.hard.vote ≤ 7
  es : ∀ e ∈ k.ents, 0 ≤ e.term ∧ e.term ≤ 18446744073709551615
theorem Kp0.good_ : Kp0.good := ⟨by simp [Kp0, Hd0], by simp [Kp0, Hd0], by simp [Kp0]⟩
theorem ksnapE_mem {k : Kp} {s : Sn} {e : En} (h : e ∈ ksnapE k s) : e ∈ k.ents := by
  unfold ksnapE at h
  split at h
  · exact List.mem_of_mem_drop h
  · cases h
theorem Kp.good.one {k : Kp} (h : k.good) {r : Rec} (hr : r.wide) (hm : may r = true) : (kone k r).good := by
  unfold kone
  split
  · rename_i h1
    unfold may at hm
    rw [if_pos h1] at hm
    simp only [Bool.and_eq_true, decide_eq_true_eq] at hm
    exact ⟨hm.1, hm.2, h.es⟩
  · split
    · refine ⟨h.v0, h.v1, fun e he => ?_⟩
      rcases List.mem_append.1 he with he | he
      · exact h.es e he
      · rw [List.mem_singleton.1 he]
        exact ⟨hr.e0, hr.e1⟩
    · split
      · exact ⟨h.v0, h.v1, fun e he => h.es e (List.mem_of_mem_take he)⟩
      · split
        · unfold ksnap
          split
          · exact h
          · exact ⟨h.v0, h.v1, fun e he => h.es e (ksnapE_mem he)⟩
        · exact h
theorem Kp.good.fold : ∀ (l : List Rec) {k : Kp}, k.good → (∀ r ∈ l, r.wide ∧ may r = true) → (kfold k l).good
  | [], _, h, _ => h
  | r :: l, _, h, hr => Kp.good.fold l (h.one (hr r List.mem_cons_self).1 (hr r List.mem_cons_self).2) fun q hq => hr q (List.mem_cons_of_mem _ hq)
theorem kone_fixr (k : Kp) (r : Rec) : kone k (fixr r) = kone k r := by
  unfold fixr
  split
  · rename_i h; simp [kone, h]
  · split
    · rename_i h; simp [kone, h]
    · split
      · rename_i h; simp [kone, h]
      · split
        · rename_i h; simp [kone, h]
        · rename_i h1 h2 h3 h4; simp [kone, h1, h2, h3, h4]
theorem kfold_right : ∀ (l : List Rec) (k : Kp), (∀ r ∈ l, may r = true) → kfold k (right l) = kfold k l
  | [], _, _ => rfl
  | r :: l, k, h => by
    unfold right
    rw [if_pos (h r List.mem_cons_self), kfold_cons, kfold_cons, kone_fixr]
    exact kfold_right l _ fun q hq => h q (List.mem_cons_of_mem _ hq)
theorem krecs_may {k : Kp} (h : k.good) : ∀ r ∈ krecs k, may r = true := by
  intro r hr
  unfold krecs at hr
  rcases List.mem_cons.1 hr with rfl | hr
  · simp [may, rHard, h.v0, h.v1]
  · rcases List.mem_append.1 hr with hr | hr
    · split at hr
      · cases hr
      · rw [List.mem_singleton.1 hr]; simp [may, rSnap]
    · obtain ⟨e, -, rfl⟩ := List.mem_map.1 hr
      simp [may, rEnt]
/-- a disk that lives, whole, of at most n records, that come to k -/
def Dk.whole (d : Dk) (k : Kp) (n : Nat) : Prop := ∃ m : List Rec, d.live (lput m) ∧ (∀ r ∈ m, (r.wide ∧ r.small) ∧ may r = true) ∧ m.length ≤ n ∧ kfold Kp0 m = k
theorem whole_new : Dk.new.whole Kp0 0 := ⟨[], live_new, by simp, Nat.le_refl _, rfl⟩
theorem Dk.whole.kp {d : Dk} {k : Kp} {n : Nat} (h : d.whole k n) : k.sound ∧ k.wide ∧ k.small n ∧ k.good := by
  obtain ⟨m, -, h2, h3, rfl⟩ := h
  exact ⟨Kp.sound.fold m Kp0.sound_, Kp.wide.fold m Kp0.wide_ fun r hr => (h2 r hr).1.1, (Kp.small.fold m Kp0.small_ fun r hr => (h2 r hr).1.2).mono (by omega), Kp.good.fold m Kp0.good_ fun r hr => ⟨(h2 r hr).1.1, (h2 r hr).2⟩⟩
theorem Dk.whole.open_ {d : Dk} {k : Kp} {n : Nat} (h : d.whole k n) : openD d = (d, 0) ∧ kfold Kp0 (scan d.b).1 = k ∧ (∀ r ∈ (scan d.b).1, r.small) ∧ (scan d.b).1.length ≤ n ∧ d.b.length ≤ 85 * n ∧ d.de = false ∧ d.sy = d.b.length := by
  obtain ⟨m, h1, h2, h3, rfl⟩ := h
  obtain ⟨h4, h5⟩ := h1.open_ fun r hr => (h2 r hr).1
  have h6 := lput_len (l := m) fun r hr => (h2 r hr).1.2
  refine ⟨h4, by rw [h5]; exact kfold_right m _ fun r hr => (h2 r hr).2, ?_, ?_, by rw [h1.b]; omega, h1.de, by rw [h1.sy, h1.b]⟩
  · rw [h5]
    exact fun r hr => (right_mem (fun r hr => (h2 r hr).1) r hr).2.2.2
  · rw [h5]
    exact Nat.le_trans (right_len m) h3
theorem Dk.whole.save_ {d : Dk} {k : Kp} {n : Nat} (h : d.whole k n) {l : List Rec} (hl : ∀ r ∈ l, (r.wide ∧ r.small) ∧ may r = true) (hn : n + l.length ≤ 1000) :
    (save d k l).2 = (kfold k l, 0) ∧ (save d k l).1.whole (kfold k l) (n + l.length + 2) := by
  have hk := h.kp
  obtain ⟨m, h1, h2, h3, h4⟩ := h
  have h6 := lput_len (l := m) fun r hr => (h2 r hr).1.2
  have h7 := lput_len (l := l) fun r hr => (hl r hr).1.2
  by_cases hne : l = []
  · subst hne
    have : save d k [] = (d, k, 0) := by unfold save; rw [if_pos rfl]
    rw [this]
    exact ⟨rfl, m, h1, h2, by omega, h4⟩
  · by_cases hs : l.any isSnap = true
    · have gk := Kp.good.fold l hk.2.2.2 fun r hr => ⟨(hl r hr).1.1, (hl r hr).2⟩
      have sk := Kp.sound.fold l hk.1
      have wk := Kp.wide.fold l hk.2.1 fun r hr => (hl r hr).1.1
      have mk := Kp.small.fold l hk.2.2.1 fun r hr => (hl r hr).1.2
      have hr := krecs_small mk wk gk.es
      have h8 := lput_len fun r h => (hr.1 r h).2
      have h9 := hr.2
      obtain ⟨e1, e2⟩ := save_snap (k := k) h1 hs (by omega)
      exact ⟨e1, _, e2, fun r h => ⟨hr.1 r h, krecs_may gk r h⟩, h9, kfold_recs sk⟩
    · obtain ⟨e1, e2⟩ := save_live (k := k) h1 hne (by simpa using hs) (by omega)
      rw [← lput_app] at e2
      refine ⟨e1, _, e2, fun r hr => ?_, by simp; omega, by rw [kfold_app, h4]⟩
      rcases List.mem_append.1 hr with hr | hr
      · exact h2 r hr
      · exact hl r hr
end Go.Proofs.Ytboncnlcomeahaa

/- Stores: a disk with a half record behind, in plain Lean. -/
namespace Go.Proofs.Ytboncnlcomeahaa
set_option linter.unusedVariables false
set_option linter.unusedSimpArgs false
set_option linter.unnecessarySimpa false
set_option maxRecDepth 100000
open Go.RowKit
theorem scan_short {b : Bytes} (h : b.length ≤ 7) : scan b = ([], 0) := scan_stop (.inl (by unfold ounframe; rw [if_pos (.inl (by omega))]; simp))
theorem Dk.whole.half {d : Dk} {k : Kp} {n : Nat} (h : d.whole k n) {half : Bytes} (hh : half.length ≤ 7) (hn : n ≤ 1000) :
    ∃ d1 d2 : Dk, d.op (d.b.length + half.length) (Dk.app half) (Dk.app half) = (d1, 0) ∧ d1.op 0 Dk.last id = (d2, 0) ∧
    (∃ d3, openD d2 = (d3, 0) ∧ d3.whole k n) ∧ kfold Kp0 (scan d2.b).1 = k ∧ (∀ r ∈ (scan d2.b).1, r.small) ∧ (scan d2.b).1.length ≤ n ∧ d2.b.length ≤ 85 * n + 7 ∧ d2.de = false := by
  obtain ⟨m, h1, h2, h3, rfl⟩ := h
  have h6 := lput_len (l := m) fun r hr => (h2 r hr).1.2
  have hok : ∀ r ∈ m, r.wide ∧ r.small := fun r hr => (h2 r hr).1
  have hrl := right_len m
  have hrm := right_mem hok
  have e1 := h1.op (d.b.length + half.length) (by rw [h1.b]; omega) (Dk.app half) (Dk.app half)
  have hde : (d.app half).de = false := h1.de
  have har : (d.app half).ar = false := h1.ar
  have e2 : (d.app half).op 0 Dk.last id = ((d.app half).last, 0) := by
    unfold Dk.op
    rw [if_neg (by simp [hde]), if_neg (by omega), if_neg (by simp [har]), if_neg (by simp [har])]
  have hb : (d.app half).last.b = lput m ++ half := by show d.b ++ half = _; rw [h1.b]
  have hs : scan (lput m ++ half) = (right m, (lput m).length) := by
    rw [scan_put m half hok, scan_short hh]; simp
  have hf : kfold Kp0 (right m) = kfold Kp0 m := kfold_right m _ fun r hr => (h2 r hr).2
  refine ⟨_, _, e1, e2, ?_, ?_, ?_, ?_, ?_, hde⟩
  · unfold openD
    rw [hb, hs]
    by_cases h0 : half = []
    · subst h0
      rw [if_neg (by simp)]
      refine ⟨_, rfl, m, ⟨by rw [hb]; simp, ?_, hde, har⟩, h2, h3, rfl⟩
      show ((d.b ++ []).length : Int) = _
      rw [h1.b]; simp
    · rw [if_pos (by simp; exact List.length_pos_iff.2 h0)]
      have h7 := lput_len (l := right m) fun r hr => (hrm r hr).2.2.2
      have hde2 : (d.app half).last.de = false := h1.de
      have har2 : (d.app half).last.ar = false := h1.ar
      refine ⟨(d.app half).last.repl (lput (right m)), ?_, right m, ⟨rfl, rfl, hde, har⟩, fun r hr => ⟨⟨(hrm r hr).2.2.1, (hrm r hr).2.2.2⟩, (hrm r hr).1⟩, by omega, hf⟩
      unfold Dk.op
      simp only
      rw [if_neg (by simp [hde2]), if_neg (by omega), if_neg (by simp [har2]), if_neg (by simp [har2])]
  · rw [hb, hs]; exact hf
  · rw [hb, hs]; exact fun r hr => (hrm r hr).2.2.2
  · rw [hb, hs]; show (right m).length ≤ n; omega
  · rw [hb, List.length_append]; omega
end Go.Proofs.Ytboncnlcomeahaa

/- The law StoreTails' walk. -/
namespace Go.Proofs.Ytboncnlcomeahaa
set_option linter.unusedVariables false
set_option linter.unusedSimpArgs false
set_option linter.unnecessarySimpa false
set_option maxRecDepth 100000
open Go.RowKit
set_option maxHeartbeats 12800000 in
theorem storeTails_walk (xa : Value) (a : List Rec) (xb : Value) (b : List Rec) (xh : Value) (half : Bytes) (w : World) (ha : Enc.Sl reE w noneAt xa a) (hb : Enc.Sl reE w noneAt xb b) (hh : Bs w xh half) :
    Calls Try.prog 5 #[xa, xb, xh] w fun e w' => e = .returned (.bool true) ∧ Ext w w' := by
  have HO1 := hide (fun (W : World) (g : Nat) hD => open_b g (.slice none 0 0) Dk.new 0 W hD rfl (fun j h => by cases h) (by rw [show Dk.new.b = [] from rfl, scan_nil]; simp) (by rw [show Dk.new.b = [] from rfl, scan_nil]; simp) (by omega) (by simp [Dk.new]))
  rw [show openD Dk.new = (Dk.new, 0) by unfold openD; rw [show Dk.new.b = [] from rfl, scan_nil]; rfl, show kfold Kp0 (scan Dk.new.b).1 = Kp0 by rw [show Dk.new.b = [] from rfl, scan_nil]; rfl] at HO1
  obtain ⟨k1, hk1⟩ : ∃ k, Kp0 = k := ⟨_, rfl⟩
  rw [hk1] at HO1
  have hs1 : k1.small 0 := by rw [← hk1]; exact Kp0.small_
  have HK1 := hide hk1
  clear hk1
  obtain ⟨Ax, cx, rfl, -, -⟩ := ha.form
  obtain ⟨Bx, dx, rfl, -, -⟩ := hb.form
  obtain ⟨Hx, ex, rfl, hh1, hh2, -⟩ := id hh
  have hwa : ∀ r ∈ a, r.wide := Sl.wides ha
  have hwb : ∀ r ∈ b, r.wide := Sl.wides hb
  go_enter Try.func5, Try.ntmps5
  go_wp2_with fail
  refine (begun23_b w).mono ?_
  rintro e w1 ⟨rfl, hx⟩
  go_wp2_with fail
  refine (plain_b (.slice Ax a.length cx) a w1 (ha.ext hx)).mono ?_
  rintro e w1a ⟨b, rfl, hx_, hp_⟩
  cases b with
  | false =>
    go_wp2
    go_ret
    exact ⟨rfl, hx.trans' hx_⟩
  | true =>
  have hpa := hp_ rfl
  replace hx := hx.trans' hx_
  clear hx_ hp_
  go_wp2_with fail
  refine (plain_b (.slice Bx b.length dx) b w1a (hb.ext hx)).mono ?_
  rintro e w2 ⟨b, rfl, hx_, hp_⟩
  cases b with
  | false =>
    go_wp2
    go_ret
    exact ⟨rfl, hx.trans' hx_⟩
  | true =>
  have hpb := hp_ rfl
  replace hx := hx.trans' hx_
  clear hx_ hp_
  by_cases h7 : (half.length : Int) ≤ 7
  case neg =>
    go_wp2
    go_ret
    exact ⟨rfl, hx⟩
  have hla : ∀ r ∈ a, (r.wide ∧ r.small) ∧ may r = true := fun r hr => ⟨⟨hwa r hr, hpa.small r hr⟩, hpa.may r hr⟩
  have hlb : ∀ r ∈ b, (r.wide ∧ r.small) ∧ may r = true := fun r hr => ⟨⟨hwb r hr, hpb.small r hr⟩, hpb.may r hr⟩
  have hna := hpa.len
  have hnb := hpb.len
  clear hpa hpb hwa hwb
  go_wp2_with fail
  refine (disk_new w2).mono ?_
  rintro e w3 ⟨rfl, hw3⟩
  have hD := new_at w2
  rw [← hw3] at hD
  have hx3 : Ext w w3 := by rw [hw3]; exact hx.trans' ((Ext.rfl' _).alloc' _)
  obtain ⟨gd, hgd⟩ : ∃ g, w2.heap.size = g := ⟨_, rfl⟩
  rw [hgd] at hD ⊢
  have hgdw : w.heap.size ≤ gd := by have := hx.size; omega
  clear hw3 hgd hx
  go_wp2_with fail
  refine (HO1.out w3 gd hD).mono ?_
  rintro e w4 (⟨-, gs, v4, As, cs, Ae, ce, Am, cm, Bm, dm, rfl, hS, hgs, hb2, he2, hc2⟩ | ⟨h, -⟩)
  case inr => exact absurd rfl h
  have hgsw : w.heap.size ≤ gs := by have := hx3.size; omega
  have hx4 : Ext w w4 := hx3.then_ hc2 (by simpa using hgdw)
  clear hD hc2 hb2 he2 hx3
  obtain ⟨g3, hg3⟩ : ∃ g, w4.heap.size = g := ⟨_, rfl⟩
  have hz : Ext w4 (w4.alloc (.cells #[.int .u64 k1.hard.term, .int .i64 k1.hard.vote, .int .u64 k1.snap.index, .int .u64 k1.snap.term, .slice Am k1.snap.state.length cm, .slice Bm k1.ents.length dm] 33)) := (Ext.rfl' _).alloc' _
  go_upto_region 7 with fail
  try rw [hg3]
  generalize (w4.alloc (.cells #[.int .u64 k1.hard.term, .int .i64 k1.hard.vote, .int .u64 k1.snap.index, .int .u64 k1.snap.term, .slice Am k1.snap.state.length cm, .slice Bm k1.ents.length dm] 33)) = w5 at *
  replace hS := hS.ext hz
  have hx5 := hx4.trans' hz
  clear hz hg3 hx4
  obtain ⟨hsv, hwh⟩ := whole_new.save_ hla (by omega)
  rw [HK1.out] at hsv hwh
  obtain ⟨⟨d1, ka, ex1⟩, hq1⟩ : ∃ q, save Dk.new k1 a = q := ⟨_, rfl⟩
  rw [hq1] at hsv hwh
  simp only at hsv hwh
  obtain ⟨h1_, rfl⟩ := Prod.mk.inj hsv
  rw [← h1_] at hwh
  have HQ1 := hide hq1
  have hkp := hwh.kp
  have hkw := hkp.2.1
  have hks : ka.small 22 := hkp.2.2.1.mono (by omega)
  obtain ⟨da, d2, hop1, hop2, ⟨d3, ho1, hw3⟩, ho2, ho3, ho4, ho5, ho6⟩ := hwh.half (half := half) (by omega) (by omega)
  have HP1 := hide hop1
  have HP2 := hide hop2
  have HO := hide (fun (W : World) v hD hv => open2_b gd v d2 22 W hD ho6 hv ho3 (by omega) (by omega) (by omega))
  rw [ho1, HK1.out] at HO
  rw [HK1.out] at ho2
  rw [ho2] at HO
  obtain ⟨hsv2, hwh2⟩ := hw3.save_ hlb (by omega)
  obtain ⟨⟨d4, kb, ex2⟩, hq2⟩ : ∃ q, save d3 ka b = q := ⟨_, rfl⟩
  rw [hq2] at hsv2 hwh2
  simp only at hsv2 hwh2
  obtain ⟨h2_, rfl⟩ := Prod.mk.inj hsv2
  rw [← h2_] at hwh2
  have HQ2 := hide hq2
  have HKB := hide h2_.symm
  have hkp2 := hwh2.kp
  have hkw2 := hkp2.2.1
  have hks2 : kb.small 44 := hkp2.2.2.1.mono (by omega)
  obtain ⟨p1, p2, p3, p4, p5, p6, -⟩ := hwh2.open_
  have HO2 := hide (fun (W : World) v hD hv => open2_b gd v d4 44 W hD p6 hv p3 (by omega) (by omega) (by omega))
  rw [p1, HK1.out] at HO2
  rw [HK1.out] at p2
  rw [p2] at HO2
  clear hq1 hsv h1_ hwh hkp hop1 hop2 ho1 ho2 ho3 ho4 ho5 ho6 hw3 hsv2 hwh2 hq2 h2_ hkp2 p1 p2 p3 p4 p5 p6
  go_wp2_with fail
  refine (save_b gs gd k1 Dk.new v4 As Ae cs ce (.slice Ax a.length cx) a 0 _ hS hs1 ((ha.mono (Y := XS gs gd) (fun j hj h => by rcases h with h | h <;> omega)).ext hx5) (fun r hr => (hla r hr).1) (by omega)).mono ?_
  rintro e w6 ⟨v6, As6, cs6, Ae6, ce6, rfl, hS6, hc6⟩
  rw [HQ1.out] at hS6
  rw [show (save Dk.new k1 a).2.2 = 0 by rw [HQ1.out]]
  simp only at hS6
  have hx6 : Ext w w6 := hx5.then_ hc6 (fun j hj => by simp at hj; rcases hj with h | h <;> omega)
  clear hS hc6 hx5
  go_wp2_with fail
  refine (disk_append gd v6 (.slice Hx half.length ex) d1 half w6 hS6.disk (hh.ext hx6) ((((Enc.BsX.of hh).mono (Y := fun j => j = gd) (fun j hj h => by omega)).ext hx6).off (fun j hj => List.mem_singleton.1 hj)) (by omega)).mono ?_
  rw [HP1.out]
  rintro e w7 ⟨rfl, hd7⟩
  simp only at hd7
  obtain ⟨v7, hS7, hc7⟩ := hS6.to hd7
  have hx7 := hx6.then_ hc7 (by simpa using hgdw)
  clear hS6 hc7 hd7 hx6
  go_wp2_with fail
  refine (disk_sync gd v7 da w7 hS7.disk).mono ?_
  rw [HP2.out]
  rintro e w8 ⟨rfl, hd8⟩
  simp only at hd8
  obtain ⟨v8, hS8, hc8⟩ := hS7.to hd8
  have hx8 := hx7.then_ hc8 (by simpa using hgdw)
  clear hS7 hc8 hd8 hx7
  have hne := hS8.ne
  go_wp2_with fail
  refine (HO.out w8 v8 hS8.disk hS8.lt).mono ?_
  rintro e w9 (⟨-, gt, vt, At_, ct_, Aet, cet, At, ct, Bt, dt, rfl, hSt, hgt, hbt, het, hct⟩ | ⟨h, -⟩)
  case inr => exact absurd rfl h
  have hSo := hS8.so.chg hct hne
  have hx9 := hx8.then_ hct (by simpa using hgdw)
  have hgtw : w.heap.size ≤ gt := by have := hx8.size; omega
  clear hS8 hct hx8
  obtain ⟨gk, hgk⟩ : ∃ g, w9.heap.size = g := ⟨_, rfl⟩
  have hQ := Blk.new w9 33 #[.int .u64 ka.hard.term, .int .i64 ka.hard.vote, .int .u64 ka.snap.index, .int .u64 ka.snap.term, .slice At ka.snap.state.length ct, .slice Bt ka.ents.length dt]
  rw [hgk] at hQ
  have hz : Ext w9 (w9.alloc (.cells #[.int .u64 ka.hard.term, .int .i64 ka.hard.vote, .int .u64 ka.snap.index, .int .u64 ka.snap.term, .slice At ka.snap.state.length ct, .slice Bt ka.ents.length dt] 33)) := (Ext.rfl' _).alloc' _
  have hgtk : gt < gk := by rw [← hgk]; exact hSt.so.blk.lt
  have hgdk : gd < gk := by rw [← hgk]; exact hSt.disk.blk.lt
  go_upto_region 12 with fail
  try rw [hgk]
  generalize (w9.alloc (.cells #[.int .u64 ka.hard.term, .int .i64 ka.hard.vote, .int .u64 ka.snap.index, .int .u64 ka.snap.term, .slice At ka.snap.state.length ct, .slice Bt ka.ents.length dt] 33)) = wr4 at *
  replace hSo := hSo.ext hz
  replace hx9 := hx9.trans' hz
  replace hSt := hSt.ext hz
  replace hbt := hbt.ext hz
  replace het := het.ext hz
  clear hz hgk
  have hgdR : gd < wr4.heap.size := hSt.disk.blk.lt
  refine Rg.regionT Try.checked.mixed 102 16 (by kernel_rfl) [
    (fun x_ _ => x_ = .int .i64 0),
    (fun x_ _ => x_ = .bool false),
    (fun x_ _ => x_ = .bool false),
    (fun x_ _ => x_ = .pointer (some ⟨gt, 0, none⟩)),
    (fun x_ _ => x_ = .bool false),
    (fun x_ _ => x_ = .bool false),
    (fun x_ _ => x_ = .bool false),
    (fun x_ _ => x_ = .agg #[.int .u64 ka.hard.term, .int .i64 ka.hard.vote, .int .u64 ka.snap.index, .int .u64 ka.snap.term, .slice At ka.snap.state.length ct, .slice Bt ka.ents.length dt]),
    (fun x_ _ => x_ = .pointer (some ⟨gs, 0, none⟩)),
    (fun v W => ∃ A c B d, v = .agg #[.int .u64 ka.hard.term, .int .i64 ka.hard.vote, .int .u64 ka.snap.index, .int .u64 ka.snap.term, .slice A ka.snap.state.length c, .slice B ka.ents.length d] ∧ Bs W (.slice A ka.snap.state.length c) ka.snap.state ∧ Enc.Sl enE W noneAt (.slice B ka.ents.length d) ka.ents),
    (fun x_ _ => x_ = .bool true),
    (fun x_ _ => x_ = .bool false),
    (fun x_ _ => x_ = .bool false),
    (fun x_ _ => x_ = .bool false),
    (fun x_ _ => x_ = .pointer (some ⟨gt, 0, none⟩)),
    (fun x_ _ => x_ = .slice Bx b.length dx)] (fun W => Ext wr4 W) Ext rfl rfl rfl
    ?st ((Ext.rfl' wr4).drew') ?ob ?en
  case st => exact ⟨fun _ _ _ h _ => h, fun _ _ _ h _ => h, fun _ _ _ h _ => h, fun _ _ _ h _ => h, fun _ _ _ h _ => h, fun _ _ _ h _ => h, fun _ _ _ h _ => h, fun _ _ _ h _ => h, fun _ _ _ h _ => h, fun _ _ _ ⟨a1_, a2_, a3_, a4_, h1_, h2_, h3_⟩ hx => ⟨a1_, a2_, a3_, a4_, h1_, h2_.ext hx, h3_.ext hx⟩, fun _ _ _ h _ => h, fun _ _ _ h _ => h, fun _ _ _ h _ => h, fun _ _ _ h _ => h, fun _ _ _ h _ => h, fun _ _ _ h _ => h, trivial⟩
  case ob =>
    refine ⟨Rg.at_run [13] rfl ?_, ?_⟩
    · intro ρ W hR ⟨q13, _⟩
      replace q13 : ρ 13 = .int .i64 0 := q13
      refine ⟨rfl, ?_⟩
      exact Rg.run_ok (v := .int .i64 0) (by simp [execOp, Rg.ev, go_sem, q13]) ⟨rfl, hR, Ext.rfl' _⟩
    refine ⟨Rg.at_run [62] rfl ?_, ?_⟩
    · intro ρ W hR ⟨q62, _⟩
      replace q62 : ρ 62 = .int .i64 0 := q62
      refine ⟨rfl, ?_⟩
      exact Rg.run_ok (v := .bool false) (by simp [execOp, Rg.ev, go_sem, q62]) ⟨rfl, hR, Ext.rfl' _⟩
    refine ⟨Rg.at_run [63] rfl ?_, ?_⟩
    · intro ρ W hR ⟨q63, _⟩
      replace q63 : ρ 63 = .bool false := q63
      refine ⟨rfl, ?_⟩
      exact Rg.run_ok (v := .bool false) (by simp [execOp, Rg.ev, go_sem, q63]) ⟨rfl, hR, Ext.rfl' _⟩
    refine ⟨Rg.at_run [11, 64] rfl ?_, ?_⟩
    · intro ρ W hR ⟨q11, q64, _⟩
      replace q11 : ρ 11 = .pointer (some ⟨gt, 0, none⟩) := q11
      replace q64 : ρ 64 = .bool false := q64
      refine ⟨by simp [Rg.wants, q64], ?_⟩
      exact Rg.run_ok (v := .pointer (some ⟨gt, 0, none⟩)) (by simp [execOp, Rg.ev, go_sem, q11]) ⟨rfl, hR, Ext.rfl' _⟩
    refine ⟨Rg.at_run [65, 64] rfl ?_, ?_⟩
    · intro ρ W hR ⟨q65, q64, _⟩
      replace q65 : ρ 65 = .pointer (some ⟨gt, 0, none⟩) := q65
      replace q64 : ρ 64 = .bool false := q64
      refine ⟨by simp [Rg.wants, q64], ?_⟩
      exact Rg.run_ok (v := .bool false) (by simp [execOp, Rg.ev, go_sem, q65]) ⟨rfl, hR, Ext.rfl' _⟩
    refine ⟨Rg.at_run [64, 66] rfl ?_, ?_⟩
    · intro ρ W hR ⟨q64, q66, _⟩
      replace q64 : ρ 64 = .bool false := q64
      replace q66 : ρ 66 = .bool false := q66
      refine ⟨rfl, ?_⟩
      exact Rg.run_ok (v := .bool false) (by simp [execOp, Rg.ev, go_sem, q64, q66]) ⟨rfl, hR, Ext.rfl' _⟩
    refine ⟨Rg.at_run [67] rfl ?_, ?_⟩
    · intro ρ W hR ⟨q67, _⟩
      replace q67 : ρ 67 = .bool false := q67
      refine ⟨rfl, ?_⟩
      exact Rg.run_ok (v := .bool false) (by simp [execOp, Rg.ev, go_sem, q67]) ⟨rfl, hR, Ext.rfl' _⟩
    refine ⟨Rg.at_run [12, 68] rfl ?_, ?_⟩
    · intro ρ W hR ⟨q12, q68, _⟩
      replace q12 : ρ 12 = .pointer (some ⟨gk, 0, none⟩) := q12
      replace q68 : ρ 68 = .bool false := q68
      refine ⟨by simp [Rg.wants, q68], ?_⟩
      have c0_ : W.cell? ⟨gk, 0, none⟩ = some (.int .u64 ka.hard.term) := ((hQ.ext hR).cell 0).trans rfl
      have c1_ : W.cell? ⟨gk, 1, none⟩ = some (.int .i64 ka.hard.vote) := ((hQ.ext hR).cell 1).trans rfl
      have c2_ : W.cell? ⟨gk, 2, none⟩ = some (.int .u64 ka.snap.index) := ((hQ.ext hR).cell 2).trans rfl
      have c3_ : W.cell? ⟨gk, 3, none⟩ = some (.int .u64 ka.snap.term) := ((hQ.ext hR).cell 3).trans rfl
      have c4_ : W.cell? ⟨gk, 4, none⟩ = some (.slice At ka.snap.state.length ct) := ((hQ.ext hR).cell 4).trans rfl
      have c5_ : W.cell? ⟨gk, 5, none⟩ = some (.slice Bt ka.ents.length dt) := ((hQ.ext hR).cell 5).trans rfl
      exact Rg.run_ok (v := .agg #[.int .u64 ka.hard.term, .int .i64 ka.hard.vote, .int .u64 ka.snap.index, .int .u64 ka.snap.term, .slice At ka.snap.state.length ct, .slice Bt ka.ents.length dt]) (by simp [execOp, Rg.ev, go_sem, q12, c0_, c1_, c2_, c3_, c4_, c5_]) ⟨rfl, hR, Ext.rfl' _⟩
    refine ⟨Rg.at_run [8, 68] rfl ?_, ?_⟩
    · intro ρ W hR ⟨q8, q68, _⟩
      replace q8 : ρ 8 = .pointer (some ⟨gs, 0, none⟩) := q8
      replace q68 : ρ 68 = .bool false := q68
      refine ⟨by simp [Rg.wants, q68], ?_⟩
      exact Rg.run_ok (v := .pointer (some ⟨gs, 0, none⟩)) (by simp [execOp, Rg.ev, go_sem, q8]) ⟨rfl, hR, Ext.rfl' _⟩
    refine ⟨Rg.at_run [70, 68] rfl ?_, ?_⟩
    · intro ρ W hR ⟨q70, q68, _⟩
      replace q70 : ρ 70 = .pointer (some ⟨gs, 0, none⟩) := q70
      replace q68 : ρ 68 = .bool false := q68
      refine ⟨by simp [Rg.wants, q68], ?_⟩
      refine Rg.enter_fn (args := #[.pointer (some ⟨gs, 0, none⟩)]) rfl (by simp only [List.map_toArray, List.map_cons, List.map_nil, Rg.ev, q70]) (by kernel_rfl) ?_
      refine (kept_b gs gd ka _ _ _ _ 22 W (hSo.ext hR) hkw hks (by omega) (by have h1 := hgdR; have h2 := hR.size; omega)).mono ?_
      rintro e_ w9 ⟨A_, c_, B_, d_, rfl, h1_, h2_, hxx⟩
      exact ⟨_, rfl, ⟨_, _, _, _, rfl, h1_.1, (h2_.sl.mono fun _ _ h => h.elim)⟩, hR.trans' hxx, hxx⟩
    refine ⟨Rg.at_run [69, 71, 68] rfl ?_, ?_⟩
    · intro ρ W hR ⟨q69, q71, q68, _⟩
      replace q69 : ρ 69 = .agg #[.int .u64 ka.hard.term, .int .i64 ka.hard.vote, .int .u64 ka.snap.index, .int .u64 ka.snap.term, .slice At ka.snap.state.length ct, .slice Bt ka.ents.length dt] := q69
      replace q71 : (fun v W => ∃ A c B d, v = .agg #[.int .u64 ka.hard.term, .int .i64 ka.hard.vote, .int .u64 ka.snap.index, .int .u64 ka.snap.term, .slice A ka.snap.state.length c, .slice B ka.ents.length d] ∧ Bs W (.slice A ka.snap.state.length c) ka.snap.state ∧ Enc.Sl enE W noneAt (.slice B ka.ents.length d) ka.ents) (ρ 71) W := q71
      replace q68 : ρ 68 = .bool false := q68
      refine ⟨by simp [Rg.wants, q68], ?_⟩
      obtain ⟨A9, c9, B9, d9, hv9, hb9, hl9⟩ := q71
      refine Rg.enter_fn (args := #[.agg #[.int .u64 ka.hard.term, .int .i64 ka.hard.vote, .int .u64 ka.snap.index, .int .u64 ka.snap.term, .slice At ka.snap.state.length ct, .slice Bt ka.ents.length dt], .agg #[.int .u64 ka.hard.term, .int .i64 ka.hard.vote, .int .u64 ka.snap.index, .int .u64 ka.snap.term, .slice A9 ka.snap.state.length c9, .slice B9 ka.ents.length d9]]) rfl (by simp only [List.map_toArray, List.map_cons, List.map_nil, Rg.ev, q69, hv9]) (by kernel_rfl) ?_
      refine (sameKept_b ka (.slice At ka.snap.state.length ct) (.slice Bt ka.ents.length dt) (.slice A9 ka.snap.state.length c9) (.slice B9 ka.ents.length d9) W ((hbt.ext hR).1) hb9 (slN (het.ext hR)) hl9).mono ?_
      rintro e_ w9 ⟨rfl, hxx⟩
      exact ⟨_, rfl, rfl, hR.trans' hxx, hxx⟩
    refine ⟨Rg.at_run [72, 68] rfl ?_, ?_⟩
    · intro ρ W hR ⟨q72, q68, _⟩
      replace q72 : ρ 72 = .bool true := q72
      replace q68 : ρ 68 = .bool false := q68
      refine ⟨by simp [Rg.wants, q68], ?_⟩
      exact Rg.run_ok (v := .bool false) (by simp [execOp, Rg.ev, go_sem, q72]) ⟨rfl, hR, Ext.rfl' _⟩
    refine ⟨Rg.at_run [68, 73] rfl ?_, ?_⟩
    · intro ρ W hR ⟨q68, q73, _⟩
      replace q68 : ρ 68 = .bool false := q68
      replace q73 : ρ 73 = .bool false := q73
      refine ⟨rfl, ?_⟩
      exact Rg.run_ok (v := .bool false) (by simp [execOp, Rg.ev, go_sem, q68, q73]) ⟨rfl, hR, Ext.rfl' _⟩
    refine ⟨Rg.at_run [74] rfl ?_, ?_⟩
    · intro ρ W hR ⟨q74, _⟩
      replace q74 : ρ 74 = .bool false := q74
      refine ⟨rfl, ?_⟩
      exact Rg.run_ok (v := .bool false) (by simp [execOp, Rg.ev, go_sem, q74]) ⟨rfl, hR, Ext.rfl' _⟩
    refine ⟨Rg.at_run [11, 75] rfl ?_, ?_⟩
    · intro ρ W hR ⟨q11, q75, _⟩
      replace q11 : ρ 11 = .pointer (some ⟨gt, 0, none⟩) := q11
      replace q75 : ρ 75 = .bool false := q75
      refine ⟨by simp [Rg.wants, q75], ?_⟩
      exact Rg.run_ok (v := .pointer (some ⟨gt, 0, none⟩)) (by simp [execOp, Rg.ev, go_sem, q11]) ⟨rfl, hR, Ext.rfl' _⟩
    refine ⟨Rg.at_run [1, 75] rfl ?_, ?_⟩
    · intro ρ W hR ⟨q1, q75, _⟩
      replace q1 : ρ 1 = .slice Bx b.length dx := q1
      replace q75 : ρ 75 = .bool false := q75
      refine ⟨by simp [Rg.wants, q75], ?_⟩
      exact Rg.run_ok (v := .slice Bx b.length dx) (by simp [execOp, Rg.ev, go_sem, q1]) ⟨rfl, hR, Ext.rfl' _⟩
    trivial
  case en =>
    intro tm W hR hsz hk
    rw [Rg.fin_eq (ds := [62, 63, 64, 65, 66, 67, 68, 69, 70, 71, 72, 73, 74, 75, 76, 77]) rfl rfl rfl hsz hk]
    have k62 : tm.getD 62 undef = .int .i64 0 := hk 62
    have k63 : tm.getD 63 undef = .bool false := hk 63
    have k64 : tm.getD 64 undef = .bool false := hk 64
    have k65 : tm.getD 65 undef = .pointer (some ⟨gt, 0, none⟩) := hk 65
    have k66 : tm.getD 66 undef = .bool false := hk 66
    have k67 : tm.getD 67 undef = .bool false := hk 67
    have k68 : tm.getD 68 undef = .bool false := hk 68
    have k69 : tm.getD 69 undef = .agg #[.int .u64 ka.hard.term, .int .i64 ka.hard.vote, .int .u64 ka.snap.index, .int .u64 ka.snap.term, .slice At ka.snap.state.length ct, .slice Bt ka.ents.length dt] := hk 69
    have k70 : tm.getD 70 undef = .pointer (some ⟨gs, 0, none⟩) := hk 70
    have k71 : (fun v W => ∃ A c B d, v = .agg #[.int .u64 ka.hard.term, .int .i64 ka.hard.vote, .int .u64 ka.snap.index, .int .u64 ka.snap.term, .slice A ka.snap.state.length c, .slice B ka.ents.length d] ∧ Bs W (.slice A ka.snap.state.length c) ka.snap.state ∧ Enc.Sl enE W noneAt (.slice B ka.ents.length d) ka.ents) (tm.getD 71 undef) W := hk 71
    have k72 : tm.getD 72 undef = .bool true := hk 72
    have k73 : tm.getD 73 undef = .bool false := hk 73
    have k74 : tm.getD 74 undef = .bool false := hk 74
    have k75 : tm.getD 75 undef = .bool false := hk 75
    have k76 : tm.getD 76 undef = .pointer (some ⟨gt, 0, none⟩) := hk 76
    have k77 : tm.getD 77 undef = .slice Bx b.length dx := hk 77
    clear hk hsz
    simp only [Rg.putAll, List.setIfInBounds_toArray, List.set_cons_zero, List.set_cons_succ, k62, k63, k64, k65, k66, k67, k68, k69, k70, k72, k73, k74, k75, k76, k77]
    clear k62
    clear k63
    clear k64
    clear k65
    clear k66
    clear k67
    clear k68
    clear k69
    clear k70
    generalize tm.getD 71 undef = u71 at *
    clear k72
    clear k73
    clear k74
    clear k75
    clear k76
    clear k77

    clear k71
    go_wp2_with fail
    refine (save_b gt gd ka d3 vt At_ Aet ct_ cet (.slice Bx b.length dx) b 22 W (hSt.ext hR) hks ((hb.mono (Y := XS gt gd) (fun j hj h => by rcases h with h | h <;> omega)).ext (hx9.trans' hR)) (fun r hr => (hlb r hr).1) (by omega)).mono ?_
    rintro e w10 ⟨v10, At2, ct2, Bt2, dt2, rfl, hS10, hc10⟩
    rw [HQ2.out] at hS10
    rw [show (save d3 ka b).2.2 = 0 by rw [HQ2.out]]
    simp only at hS10
    have hx10 : Ext w w10 := (hx9.trans' hR).then_ hc10 (fun j hj => by simp at hj; rcases hj with h | h <;> omega)
    have hb10 := (hbt.ext hR).chg hc10 (fun j hj _ => by simpa using hj)
    have he10 := (het.ext hR).chg hc10 (fun j hj _ => by simpa using hj)
    have hQ10 := (hQ.ext hR).chg hc10 (by simp; omega)
    have hne2 := hS10.ne
    clear hSt hSo hbt het hQ hc10 hR hx9
    go_wp2_with fail
    refine (HO2.out w10 v10 hS10.disk hS10.lt).mono ?_
    rintro e w11 (⟨-, gu, vu, Au_, cu_, Aeu, ceu, Au, cu, Bu, du, rfl, hSu, hgu, hbu, heu, hcu⟩ | ⟨h, -⟩)
    case inr => exact absurd rfl h
    have hSo := hS10.so.chg hcu hne2
    have hx11 := hx10.then_ hcu (by simpa using hgdw)
    have hb11 := hb10.chg hcu (fun j hj _ => .inr (List.mem_singleton.1 hj))
    have he11 := he10.chg hcu (fun j hj _ => .inr (List.mem_singleton.1 hj))
    have hQ11 := hQ10.chg hcu (by simp; omega)
    have hgd11 : gd < w11.heap.size := hSu.disk.blk.lt
    clear hS10 hb10 he10 hQ10 hcu hx10 hSu
    obtain ⟨gj, hgj⟩ : ∃ g, w11.heap.size = g := ⟨_, rfl⟩
    have hJ := Blk.new w11 33 #[.int .u64 kb.hard.term, .int .i64 kb.hard.vote, .int .u64 kb.snap.index, .int .u64 kb.snap.term, .slice Au kb.snap.state.length cu, .slice Bu kb.ents.length du]
    rw [hgj] at hJ
    have hz : Ext w11 (w11.alloc (.cells #[.int .u64 kb.hard.term, .int .i64 kb.hard.vote, .int .u64 kb.snap.index, .int .u64 kb.snap.term, .slice Au kb.snap.state.length cu, .slice Bu kb.ents.length du] 33)) := (Ext.rfl' _).alloc' _
    go_upto_region 15 with fail
    try rw [hgj]
    generalize (w11.alloc (.cells #[.int .u64 kb.hard.term, .int .i64 kb.hard.vote, .int .u64 kb.snap.index, .int .u64 kb.snap.term, .slice Au kb.snap.state.length cu, .slice Bu kb.ents.length du] 33)) = wr4 at *
    replace hSo := hSo.ext hz
    replace hx11 := hx11.trans' hz
    replace hb11 : Bs wr4 (.slice At ka.snap.state.length ct) ka.snap.state := (hb11.ext hz).1
    replace he11 := slN (he11.ext hz)
    replace hQ11 := hQ11.ext hz
    replace hbu : Bs wr4 (.slice Au kb.snap.state.length cu) kb.snap.state := (hbu.ext hz).1
    replace heu := slN (heu.ext hz)
    have hgdR : gd < wr4.heap.size := by have := hz.size; omega
    clear hz hgj
    refine Rg.regionT Try.checked.mixed 102 15 (by kernel_rfl) [
      (fun x_ _ => x_ = .int .i64 0),
      (fun x_ _ => x_ = .bool true),
      (fun x_ _ => x_ = .bool true),
      (fun x_ _ => x_ = .agg #[.int .u64 kb.hard.term, .int .i64 kb.hard.vote, .int .u64 kb.snap.index, .int .u64 kb.snap.term, .slice Au kb.snap.state.length cu, .slice Bu kb.ents.length du]),
      (fun x_ _ => x_ = .agg #[.int .u64 ka.hard.term, .int .i64 ka.hard.vote, .int .u64 ka.snap.index, .int .u64 ka.snap.term, .slice At ka.snap.state.length ct, .slice Bt ka.ents.length dt]),
      (fun x_ _ => x_ = .slice Bx b.length dx),
      (fun v W => ∃ A c B d, v = .agg #[.int .u64 kb.hard.term, .int .i64 kb.hard.vote, .int .u64 kb.snap.index, .int .u64 kb.snap.term, .slice A kb.snap.state.length c, .slice B kb.ents.length d] ∧ Bs W (.slice A kb.snap.state.length c) kb.snap.state ∧ Enc.Sl enE W noneAt (.slice B kb.ents.length d) kb.ents),
      (fun x_ _ => x_ = .bool true),
      (fun x_ _ => x_ = .bool true),
      (fun x_ _ => x_ = .bool true),
      (fun x_ _ => x_ = .agg #[.int .u64 kb.hard.term, .int .i64 kb.hard.vote, .int .u64 kb.snap.index, .int .u64 kb.snap.term, .slice Au kb.snap.state.length cu, .slice Bu kb.ents.length du]),
      (fun x_ _ => x_ = .pointer (some ⟨gt, 0, none⟩)),
      (fun v W => ∃ A c B d, v = .agg #[.int .u64 kb.hard.term, .int .i64 kb.hard.vote, .int .u64 kb.snap.index, .int .u64 kb.snap.term, .slice A kb.snap.state.length c, .slice B kb.ents.length d] ∧ Bs W (.slice A kb.snap.state.length c) kb.snap.state ∧ Enc.Sl enE W noneAt (.slice B kb.ents.length d) kb.ents),
      (fun x_ _ => x_ = .bool true),
      (fun x_ _ => x_ = .bool true)] (fun W => Ext wr4 W) Ext rfl rfl rfl
      ?st ((Ext.rfl' wr4).drew') ?ob ?en
    case st => exact ⟨fun _ _ _ h _ => h, fun _ _ _ h _ => h, fun _ _ _ h _ => h, fun _ _ _ h _ => h, fun _ _ _ h _ => h, fun _ _ _ h _ => h, fun _ _ _ ⟨a1_, a2_, a3_, a4_, h1_, h2_, h3_⟩ hx => ⟨a1_, a2_, a3_, a4_, h1_, h2_.ext hx, h3_.ext hx⟩, fun _ _ _ h _ => h, fun _ _ _ h _ => h, fun _ _ _ h _ => h, fun _ _ _ h _ => h, fun _ _ _ h _ => h, fun _ _ _ ⟨a1_, a2_, a3_, a4_, h1_, h2_, h3_⟩ hx => ⟨a1_, a2_, a3_, a4_, h1_, h2_.ext hx, h3_.ext hx⟩, fun _ _ _ h _ => h, fun _ _ _ h _ => h, trivial⟩
    case ob =>
      refine ⟨Rg.at_run [16] rfl ?_, ?_⟩
      · intro ρ W hR ⟨q16, _⟩
        replace q16 : ρ 16 = .int .i64 0 := q16
        refine ⟨rfl, ?_⟩
        exact Rg.run_ok (v := .int .i64 0) (by simp [execOp, Rg.ev, go_sem, q16]) ⟨rfl, hR, Ext.rfl' _⟩
      refine ⟨Rg.at_run [87] rfl ?_, ?_⟩
      · intro ρ W hR ⟨q87, _⟩
        replace q87 : ρ 87 = .int .i64 0 := q87
        refine ⟨rfl, ?_⟩
        exact Rg.run_ok (v := .bool true) (by simp [execOp, Rg.ev, go_sem, q87]) ⟨rfl, hR, Ext.rfl' _⟩
      refine ⟨Rg.at_run [88] rfl ?_, ?_⟩
      · intro ρ W hR ⟨q88, _⟩
        replace q88 : ρ 88 = .bool true := q88
        refine ⟨rfl, ?_⟩
        exact Rg.run_ok (v := .bool true) (by simp [execOp, Rg.ev, go_sem, q88]) ⟨rfl, hR, Ext.rfl' _⟩
      refine ⟨Rg.at_run [15, 89] rfl ?_, ?_⟩
      · intro ρ W hR ⟨q15, q89, _⟩
        replace q15 : ρ 15 = .pointer (some ⟨gj, 0, none⟩) := q15
        replace q89 : ρ 89 = .bool true := q89
        refine ⟨by simp [Rg.wants, q89], ?_⟩
        have c0_ : W.cell? ⟨gj, 0, none⟩ = some (.int .u64 kb.hard.term) := ((hJ.ext hR).cell 0).trans rfl
        have c1_ : W.cell? ⟨gj, 1, none⟩ = some (.int .i64 kb.hard.vote) := ((hJ.ext hR).cell 1).trans rfl
        have c2_ : W.cell? ⟨gj, 2, none⟩ = some (.int .u64 kb.snap.index) := ((hJ.ext hR).cell 2).trans rfl
        have c3_ : W.cell? ⟨gj, 3, none⟩ = some (.int .u64 kb.snap.term) := ((hJ.ext hR).cell 3).trans rfl
        have c4_ : W.cell? ⟨gj, 4, none⟩ = some (.slice Au kb.snap.state.length cu) := ((hJ.ext hR).cell 4).trans rfl
        have c5_ : W.cell? ⟨gj, 5, none⟩ = some (.slice Bu kb.ents.length du) := ((hJ.ext hR).cell 5).trans rfl
        exact Rg.run_ok (v := .agg #[.int .u64 kb.hard.term, .int .i64 kb.hard.vote, .int .u64 kb.snap.index, .int .u64 kb.snap.term, .slice Au kb.snap.state.length cu, .slice Bu kb.ents.length du]) (by simp [execOp, Rg.ev, go_sem, q15, c0_, c1_, c2_, c3_, c4_, c5_]) ⟨rfl, hR, Ext.rfl' _⟩
      refine ⟨Rg.at_run [12, 89] rfl ?_, ?_⟩
      · intro ρ W hR ⟨q12, q89, _⟩
        replace q12 : ρ 12 = .pointer (some ⟨gk, 0, none⟩) := q12
        replace q89 : ρ 89 = .bool true := q89
        refine ⟨by simp [Rg.wants, q89], ?_⟩
        have c0_ : W.cell? ⟨gk, 0, none⟩ = some (.int .u64 ka.hard.term) := ((hQ11.ext hR).cell 0).trans rfl
        have c1_ : W.cell? ⟨gk, 1, none⟩ = some (.int .i64 ka.hard.vote) := ((hQ11.ext hR).cell 1).trans rfl
        have c2_ : W.cell? ⟨gk, 2, none⟩ = some (.int .u64 ka.snap.index) := ((hQ11.ext hR).cell 2).trans rfl
        have c3_ : W.cell? ⟨gk, 3, none⟩ = some (.int .u64 ka.snap.term) := ((hQ11.ext hR).cell 3).trans rfl
        have c4_ : W.cell? ⟨gk, 4, none⟩ = some (.slice At ka.snap.state.length ct) := ((hQ11.ext hR).cell 4).trans rfl
        have c5_ : W.cell? ⟨gk, 5, none⟩ = some (.slice Bt ka.ents.length dt) := ((hQ11.ext hR).cell 5).trans rfl
        exact Rg.run_ok (v := .agg #[.int .u64 ka.hard.term, .int .i64 ka.hard.vote, .int .u64 ka.snap.index, .int .u64 ka.snap.term, .slice At ka.snap.state.length ct, .slice Bt ka.ents.length dt]) (by simp [execOp, Rg.ev, go_sem, q12, c0_, c1_, c2_, c3_, c4_, c5_]) ⟨rfl, hR, Ext.rfl' _⟩
      refine ⟨Rg.at_run [1, 89] rfl ?_, ?_⟩
      · intro ρ W hR ⟨q1, q89, _⟩
        replace q1 : ρ 1 = .slice Bx b.length dx := q1
        replace q89 : ρ 89 = .bool true := q89
        refine ⟨by simp [Rg.wants, q89], ?_⟩
        exact Rg.run_ok (v := .slice Bx b.length dx) (by simp [execOp, Rg.ev, go_sem, q1]) ⟨rfl, hR, Ext.rfl' _⟩
      refine ⟨Rg.at_run [91, 92, 89] rfl ?_, ?_⟩
      · intro ρ W hR ⟨q91, q92, q89, _⟩
        replace q91 : ρ 91 = .agg #[.int .u64 ka.hard.term, .int .i64 ka.hard.vote, .int .u64 ka.snap.index, .int .u64 ka.snap.term, .slice At ka.snap.state.length ct, .slice Bt ka.ents.length dt] := q91
        replace q92 : ρ 92 = .slice Bx b.length dx := q92
        replace q89 : ρ 89 = .bool true := q89
        refine ⟨by simp [Rg.wants, q89], ?_⟩
        refine Rg.enter_fn (args := #[.agg #[.int .u64 ka.hard.term, .int .i64 ka.hard.vote, .int .u64 ka.snap.index, .int .u64 ka.snap.term, .slice At ka.snap.state.length ct, .slice Bt ka.ents.length dt], .slice Bx b.length dx]) rfl (by simp only [List.map_toArray, List.map_cons, List.map_nil, Rg.ev, q91, q92]) (by kernel_rfl) ?_
        refine (fold_b noneAt ka (.slice At ka.snap.state.length ct) (.slice Bt ka.ents.length dt) (.slice Bx b.length dx) b 22 W (fun _ h => h.elim) hkw hks (.of (hb11.ext hR)) (he11.ext hR) (hb.ext (hx11.trans' hR)) (fun r hr => (hlb r hr).1) (by omega)).mono ?_
        rw [HKB.out]
        rintro e_ w9 ⟨A_, c_, B_, d_, rfl, h1_, h2_, hxx⟩
        exact ⟨_, rfl, ⟨_, _, _, _, rfl, h1_.1, (h2_.sl.mono fun _ _ h => h.elim)⟩, hR.trans' hxx, hxx⟩
      refine ⟨Rg.at_run [90, 93, 89] rfl ?_, ?_⟩
      · intro ρ W hR ⟨q90, q93, q89, _⟩
        replace q90 : ρ 90 = .agg #[.int .u64 kb.hard.term, .int .i64 kb.hard.vote, .int .u64 kb.snap.index, .int .u64 kb.snap.term, .slice Au kb.snap.state.length cu, .slice Bu kb.ents.length du] := q90
        replace q93 : (fun v W => ∃ A c B d, v = .agg #[.int .u64 kb.hard.term, .int .i64 kb.hard.vote, .int .u64 kb.snap.index, .int .u64 kb.snap.term, .slice A kb.snap.state.length c, .slice B kb.ents.length d] ∧ Bs W (.slice A kb.snap.state.length c) kb.snap.state ∧ Enc.Sl enE W noneAt (.slice B kb.ents.length d) kb.ents) (ρ 93) W := q93
        replace q89 : ρ 89 = .bool true := q89
        refine ⟨by simp [Rg.wants, q89], ?_⟩
        obtain ⟨A9, c9, B9, d9, hv9, hb9, hl9⟩ := q93
        refine Rg.enter_fn (args := #[.agg #[.int .u64 kb.hard.term, .int .i64 kb.hard.vote, .int .u64 kb.snap.index, .int .u64 kb.snap.term, .slice Au kb.snap.state.length cu, .slice Bu kb.ents.length du], .agg #[.int .u64 kb.hard.term, .int .i64 kb.hard.vote, .int .u64 kb.snap.index, .int .u64 kb.snap.term, .slice A9 kb.snap.state.length c9, .slice B9 kb.ents.length d9]]) rfl (by simp only [List.map_toArray, List.map_cons, List.map_nil, Rg.ev, q90, hv9]) (by kernel_rfl) ?_
        refine (sameKept_b kb (.slice Au kb.snap.state.length cu) (.slice Bu kb.ents.length du) (.slice A9 kb.snap.state.length c9) (.slice B9 kb.ents.length d9) W (hbu.ext hR) hb9 (heu.ext hR) hl9).mono ?_
        rintro e_ w9 ⟨rfl, hxx⟩
        exact ⟨_, rfl, rfl, hR.trans' hxx, hxx⟩
      refine ⟨Rg.at_run [89, 94] rfl ?_, ?_⟩
      · intro ρ W hR ⟨q89, q94, _⟩
        replace q89 : ρ 89 = .bool true := q89
        replace q94 : ρ 94 = .bool true := q94
        refine ⟨rfl, ?_⟩
        exact Rg.run_ok (v := .bool true) (by simp [execOp, Rg.ev, go_sem, q89, q94]) ⟨rfl, hR, Ext.rfl' _⟩
      refine ⟨Rg.at_run [95] rfl ?_, ?_⟩
      · intro ρ W hR ⟨q95, _⟩
        replace q95 : ρ 95 = .bool true := q95
        refine ⟨rfl, ?_⟩
        exact Rg.run_ok (v := .bool true) (by simp [execOp, Rg.ev, go_sem, q95]) ⟨rfl, hR, Ext.rfl' _⟩
      refine ⟨Rg.at_run [15, 96] rfl ?_, ?_⟩
      · intro ρ W hR ⟨q15, q96, _⟩
        replace q15 : ρ 15 = .pointer (some ⟨gj, 0, none⟩) := q15
        replace q96 : ρ 96 = .bool true := q96
        refine ⟨by simp [Rg.wants, q96], ?_⟩
        have c0_ : W.cell? ⟨gj, 0, none⟩ = some (.int .u64 kb.hard.term) := ((hJ.ext hR).cell 0).trans rfl
        have c1_ : W.cell? ⟨gj, 1, none⟩ = some (.int .i64 kb.hard.vote) := ((hJ.ext hR).cell 1).trans rfl
        have c2_ : W.cell? ⟨gj, 2, none⟩ = some (.int .u64 kb.snap.index) := ((hJ.ext hR).cell 2).trans rfl
        have c3_ : W.cell? ⟨gj, 3, none⟩ = some (.int .u64 kb.snap.term) := ((hJ.ext hR).cell 3).trans rfl
        have c4_ : W.cell? ⟨gj, 4, none⟩ = some (.slice Au kb.snap.state.length cu) := ((hJ.ext hR).cell 4).trans rfl
        have c5_ : W.cell? ⟨gj, 5, none⟩ = some (.slice Bu kb.ents.length du) := ((hJ.ext hR).cell 5).trans rfl
        exact Rg.run_ok (v := .agg #[.int .u64 kb.hard.term, .int .i64 kb.hard.vote, .int .u64 kb.snap.index, .int .u64 kb.snap.term, .slice Au kb.snap.state.length cu, .slice Bu kb.ents.length du]) (by simp [execOp, Rg.ev, go_sem, q15, c0_, c1_, c2_, c3_, c4_, c5_]) ⟨rfl, hR, Ext.rfl' _⟩
      refine ⟨Rg.at_run [11, 96] rfl ?_, ?_⟩
      · intro ρ W hR ⟨q11, q96, _⟩
        replace q11 : ρ 11 = .pointer (some ⟨gt, 0, none⟩) := q11
        replace q96 : ρ 96 = .bool true := q96
        refine ⟨by simp [Rg.wants, q96], ?_⟩
        exact Rg.run_ok (v := .pointer (some ⟨gt, 0, none⟩)) (by simp [execOp, Rg.ev, go_sem, q11]) ⟨rfl, hR, Ext.rfl' _⟩
      refine ⟨Rg.at_run [98, 96] rfl ?_, ?_⟩
      · intro ρ W hR ⟨q98, q96, _⟩
        replace q98 : ρ 98 = .pointer (some ⟨gt, 0, none⟩) := q98
        replace q96 : ρ 96 = .bool true := q96
        refine ⟨by simp [Rg.wants, q96], ?_⟩
        refine Rg.enter_fn (args := #[.pointer (some ⟨gt, 0, none⟩)]) rfl (by simp only [List.map_toArray, List.map_cons, List.map_nil, Rg.ev, q98]) (by kernel_rfl) ?_
        refine (kept_b gt gd kb _ _ _ _ 44 W (hSo.ext hR) hkw2 hks2 (by omega) (by have h1 := hgdR; have h2 := hR.size; omega)).mono ?_
        rintro e_ w9 ⟨A_, c_, B_, d_, rfl, h1_, h2_, hxx⟩
        exact ⟨_, rfl, ⟨_, _, _, _, rfl, h1_.1, (h2_.sl.mono fun _ _ h => h.elim)⟩, hR.trans' hxx, hxx⟩
      refine ⟨Rg.at_run [97, 99, 96] rfl ?_, ?_⟩
      · intro ρ W hR ⟨q97, q99, q96, _⟩
        replace q97 : ρ 97 = .agg #[.int .u64 kb.hard.term, .int .i64 kb.hard.vote, .int .u64 kb.snap.index, .int .u64 kb.snap.term, .slice Au kb.snap.state.length cu, .slice Bu kb.ents.length du] := q97
        replace q99 : (fun v W => ∃ A c B d, v = .agg #[.int .u64 kb.hard.term, .int .i64 kb.hard.vote, .int .u64 kb.snap.index, .int .u64 kb.snap.term, .slice A kb.snap.state.length c, .slice B kb.ents.length d] ∧ Bs W (.slice A kb.snap.state.length c) kb.snap.state ∧ Enc.Sl enE W noneAt (.slice B kb.ents.length d) kb.ents) (ρ 99) W := q99
        replace q96 : ρ 96 = .bool true := q96
        refine ⟨by simp [Rg.wants, q96], ?_⟩
        obtain ⟨A9, c9, B9, d9, hv9, hb9, hl9⟩ := q99
        refine Rg.enter_fn (args := #[.agg #[.int .u64 kb.hard.term, .int .i64 kb.hard.vote, .int .u64 kb.snap.index, .int .u64 kb.snap.term, .slice Au kb.snap.state.length cu, .slice Bu kb.ents.length du], .agg #[.int .u64 kb.hard.term, .int .i64 kb.hard.vote, .int .u64 kb.snap.index, .int .u64 kb.snap.term, .slice A9 kb.snap.state.length c9, .slice B9 kb.ents.length d9]]) rfl (by simp only [List.map_toArray, List.map_cons, List.map_nil, Rg.ev, q97, hv9]) (by kernel_rfl) ?_
        refine (sameKept_b kb (.slice Au kb.snap.state.length cu) (.slice Bu kb.ents.length du) (.slice A9 kb.snap.state.length c9) (.slice B9 kb.ents.length d9) W (hbu.ext hR) hb9 (heu.ext hR) hl9).mono ?_
        rintro e_ w9 ⟨rfl, hxx⟩
        exact ⟨_, rfl, rfl, hR.trans' hxx, hxx⟩
      refine ⟨Rg.at_run [96, 100] rfl ?_, ?_⟩
      · intro ρ W hR ⟨q96, q100, _⟩
        replace q96 : ρ 96 = .bool true := q96
        replace q100 : ρ 100 = .bool true := q100
        refine ⟨rfl, ?_⟩
        exact Rg.run_ok (v := .bool true) (by simp [execOp, Rg.ev, go_sem, q96, q100]) ⟨rfl, hR, Ext.rfl' _⟩
      trivial
    case en =>
      intro tm W hR hsz hk
      rw [Rg.fin_eq (ds := [87, 88, 89, 90, 91, 92, 93, 94, 95, 96, 97, 98, 99, 100, 101]) rfl rfl rfl hsz hk]
      have k87 : tm.getD 87 undef = .int .i64 0 := hk 87
      have k88 : tm.getD 88 undef = .bool true := hk 88
      have k89 : tm.getD 89 undef = .bool true := hk 89
      have k90 : tm.getD 90 undef = .agg #[.int .u64 kb.hard.term, .int .i64 kb.hard.vote, .int .u64 kb.snap.index, .int .u64 kb.snap.term, .slice Au kb.snap.state.length cu, .slice Bu kb.ents.length du] := hk 90
      have k91 : tm.getD 91 undef = .agg #[.int .u64 ka.hard.term, .int .i64 ka.hard.vote, .int .u64 ka.snap.index, .int .u64 ka.snap.term, .slice At ka.snap.state.length ct, .slice Bt ka.ents.length dt] := hk 91
      have k92 : tm.getD 92 undef = .slice Bx b.length dx := hk 92
      have k93 : (fun v W => ∃ A c B d, v = .agg #[.int .u64 kb.hard.term, .int .i64 kb.hard.vote, .int .u64 kb.snap.index, .int .u64 kb.snap.term, .slice A kb.snap.state.length c, .slice B kb.ents.length d] ∧ Bs W (.slice A kb.snap.state.length c) kb.snap.state ∧ Enc.Sl enE W noneAt (.slice B kb.ents.length d) kb.ents) (tm.getD 93 undef) W := hk 93
      have k94 : tm.getD 94 undef = .bool true := hk 94
      have k95 : tm.getD 95 undef = .bool true := hk 95
      have k96 : tm.getD 96 undef = .bool true := hk 96
      have k97 : tm.getD 97 undef = .agg #[.int .u64 kb.hard.term, .int .i64 kb.hard.vote, .int .u64 kb.snap.index, .int .u64 kb.snap.term, .slice Au kb.snap.state.length cu, .slice Bu kb.ents.length du] := hk 97
      have k98 : tm.getD 98 undef = .pointer (some ⟨gt, 0, none⟩) := hk 98
      have k99 : (fun v W => ∃ A c B d, v = .agg #[.int .u64 kb.hard.term, .int .i64 kb.hard.vote, .int .u64 kb.snap.index, .int .u64 kb.snap.term, .slice A kb.snap.state.length c, .slice B kb.ents.length d] ∧ Bs W (.slice A kb.snap.state.length c) kb.snap.state ∧ Enc.Sl enE W noneAt (.slice B kb.ents.length d) kb.ents) (tm.getD 99 undef) W := hk 99
      have k100 : tm.getD 100 undef = .bool true := hk 100
      have k101 : tm.getD 101 undef = .bool true := hk 101
      clear hk hsz
      simp only [Rg.putAll, List.setIfInBounds_toArray, List.set_cons_zero, List.set_cons_succ, k87, k88, k89, k90, k91, k92, k94, k95, k96, k97, k98, k100, k101]
      clear k87
      clear k88
      clear k89
      clear k90
      clear k91
      clear k92
      generalize tm.getD 93 undef = u93 at *
      clear k94
      clear k95
      clear k96
      clear k97
      clear k98
      generalize tm.getD 99 undef = u99 at *
      clear k100
      clear k101

      clear k93 k99
      go_wp2_with fail
      go_ret
      exact ⟨rfl, hx11.trans' hR⟩
end Go.Proofs.Ytboncnlcomeahaa

/- The statement 'StoreTailsSaid': whatever is handed in, the law answers true, and what was handed in is as it was. -/
namespace Go.Proofs.Ytboncnlcomeahaa.storeTails
set_option linter.unusedVariables false
set_option linter.unusedSimpArgs false
set_option linter.unnecessarySimpa false
set_option maxRecDepth 100000
open Go.ChangeShapes Go.WideShapes Go.ChangeAt Go.RowKit
open Go.ChangeMaps (open_string shut_string)

set_option maxRecDepth 100000 in
set_option maxHeartbeats 2000000 in
theorem lifted (os : Os) (started : os.Started) (H : Type) (enc : TypeId × Value → H) :
    ReturnsInHanded {} Try.checked os 5 .any (Rows.storeTailsSpec.pre6 enc Try.prog Try.f5 Rows.storeTailsRow.domain false) (Rows.storeTailsSpec.post enc Try.prog Try.f5 false true false false) := by
  refine returnsInHanded_of_change (C := Try.checked) own started (by kernel_rfl) Try.func5
    (ChangeSpec.witness6 (enc := enc) (C := Try.checked) false ⟨#[], #[.slice none 0 0, .slice none 0 0, .slice none 0 0], []⟩ 8 (by kernel_rfl) (by kernel_rfl) (by kernel_rfl) (by kernel_rfl)) ?_
  intro W base args ds gs before hval0 hW hcnd _
  have hval : ∀ (j : Nat) t v, Try.f5.params[j]? = some t → args[j]? = some v → Value.okWide Try.prog W .any base t v := hval0
  have hW' := hW
  obtain ⟨p, q, hA0, hV, rfl, hfz, hnd⟩ := hW
  have hA : DataW.TrodAll enc Try.prog W 0 (fun _ => true) true Try.f5.params.toList args.toList ds p := hA0
  rw [Try.params5] at hA hval
  obtain ⟨v0, vs0, d0, ds0, p0, q0, hargs, rfl, rfl, h0, r0⟩ := trodAll_cons hA
  obtain ⟨v1, vs1, d1, ds1, p1, q1, rfl, rfl, rfl, h1, r1⟩ := trodAll_cons r0
  obtain ⟨v2, vs2, d2, ds2, p2, q2, rfl, rfl, rfl, h2, r2⟩ := trodAll_cons r1
  obtain ⟨rfl, rfl, rfl⟩ := trodAll_nil r2
  obtain rfl : args = #[v0, v1, v2] := by cases args; simp_all
  obtain ⟨rfl, rfl⟩ := trodVars_none hV
  have k0 := h0
  have lt0 : ∀ x ∈ p0, x.block < W.heap.size := by obtain ⟨m, hm⟩ := k0; exact DataW.trod_lt m _ _ _ hm
  obtain ⟨a0, len0, cap0, rfl⟩ := okWide_slice Try.underlying22 (hval 0 22 v0 rfl rfl)
  obtain ⟨b0, hb0⟩ : ∃ b, Enc.Sl reE W noneAt (.slice a0 len0 cap0) b := by
    obtain ⟨fuel, hf⟩ := h0
    obtain ⟨b, v, hv, hs⟩ := (Enc.opens_slice Try.underlying22 (by kernel_rfl) (by decide) reE_opens) _ enc W fuel _ _ hf
    obtain rfl : Value.slice a0 len0 cap0 = v := by simpa [Value.cells] using hv
    exact ⟨b, hs⟩
  have k1 := h1
  have lt1 : ∀ x ∈ p1, x.block < W.heap.size := by obtain ⟨m, hm⟩ := k1; exact DataW.trod_lt m _ _ _ hm
  obtain ⟨a1, len1, cap1, rfl⟩ := okWide_slice Try.underlying22 (hval 1 22 v1 rfl rfl)
  obtain ⟨b1, hb1⟩ : ∃ b, Enc.Sl reE W noneAt (.slice a1 len1 cap1) b := by
    obtain ⟨fuel, hf⟩ := h1
    obtain ⟨b, v, hv, hs⟩ := (Enc.opens_slice Try.underlying22 (by kernel_rfl) (by decide) reE_opens) _ enc W fuel _ _ hf
    obtain rfl : Value.slice a1 len1 cap1 = v := by simpa [Value.cells] using hv
    exact ⟨b, hs⟩
  obtain ⟨a2, len2, cap2, rfl⟩ := okWide_slice Try.underlying28 (hval 2 28 v2 rfl rfl)
  have k2 := h2
  have lt2 : ∀ x ∈ p2, x.block < W.heap.size := by obtain ⟨m, hm⟩ := k2; exact DataW.trod_lt m _ _ _ hm
  obtain ⟨b2, hb2⟩ : ∃ b, Bs W (.slice a2 len2 cap2) b := by
    obtain ⟨fuel, hf⟩ := h2
    rcases open_ints Try.underlying28 Try.underlying5 (by kernel_rfl) hf with ⟨hcs, _⟩ | ⟨x, l, c, zs, hcs, _, hl, hm, hz, _, hcell, hwz⟩
    · simp [Value.cells] at hcs
      obtain ⟨rfl, rfl, rfl⟩ := hcs
      exact ⟨[], bs_none⟩
    · simp [Value.cells] at hcs
      obtain ⟨rfl, rfl, rfl⟩ := hcs
      exact bs_of_ints hl hm (by simpa using hz) hcell hwz
  clear hA0 hval0
  refine (storeTails_walk _ b0 _ b1 _ b2 W hb0 hb1 hb2).mono fun e W' ⟨he, bel⟩ => ?_
  subst he
  exact ⟨_, rfl, _, _, _, [], _, [], hW', trodAll_mk1 (shut_bool Try.underlying4 _), (trodAll_cons_mk (Below.trod laidOut (by kernel_rfl) (of_decide_eq_true (by kernel_rfl)) k0 bel lt0) (trodAll_cons_mk (Below.trod laidOut (by kernel_rfl) (of_decide_eq_true (by kernel_rfl)) k1 bel lt1) (trodAll_cons_mk (Below.trod laidOut (by kernel_rfl) (of_decide_eq_true (by kernel_rfl)) k2 bel lt2) trodAll_mk0))), rfl, bel.frame _, fun h => by cases h⟩

theorem over : Rows.storeTailsRow.holds Try.pinned (OpenSpec.ofChange Rows.storeTailsSpec) :=
  OpenClaim.holds_of_wide 5 Try.f5 rfl rfl rfl rfl rfl rfl rfl ⟨rfl, rfl, rfl, rfl, rfl⟩ rfl rfl rfl rfl rfl (by kernel_rfl) Try.func5 (by kernel_rfl)
    (of_decide_eq_true (by kernel_rfl)) (by unfold Func.isWrapper; first | (rw [if_pos (by decide +kernel)]; kernel_rfl) | (rw [if_neg (by decide +kernel)]; exact ⟨rfl, rfl⟩))
    (fun os started H enc _ => lifted os started H enc)

/-- THE STATEMENT -/
theorem proved : Rows.StoreTailsSaid := over
#print axioms proved
end Go.Proofs.Ytboncnlcomeahaa.storeTails

