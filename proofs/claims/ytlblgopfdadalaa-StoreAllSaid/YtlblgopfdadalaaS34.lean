/- A part of the proof of 'StoreAll'. -/
import Derived.Test.YtlblgopfdadalaaS22
import Derived.Test.YtlblgopfdadalaaS33
import Derived.Test.YtlblgopfdadalaaS23
namespace Go.Proofs.Ytlblgopfdadalaa
set_option linter.unusedVariables false
set_option linter.unusedSimpArgs false
set_option linter.unnecessarySimpa false
set_option maxRecDepth 100000
open Go.RowKit
/-- what Open leaves; the store's parts lie apart of X -/
def RetOpen3 (X : Avoid) (w w' : World) (e : Ending) (gd : Nat) (v0 : Value) (d : Dk) (k : Kp) (er : Int) : Prop :=
  (er = 0 ∧ ∃ (gs : Nat) (v : Value) (As : Option Addr) (cs : Nat) (Ae : Option Addr) (ce : Nat) (Am : Option Addr) (cm : Nat) (Bm : Option Addr) (dm : Nat), e = .returned (.tuple #[.pointer (some ⟨gs, 0, none⟩), .agg #[.int .u64 k.hard.term, .int .i64 k.hard.vote, .int .u64 k.snap.index, .int .u64 k.snap.term, .slice Am k.snap.state.length cm, .slice Bm k.ents.length dm], .int .i64 0]) ∧
    StD w' gs gd k d v As cs Ae ce ∧ w.heap.size ≤ gs ∧ Enc.BsX w' (fun j => XS gs gd j ∨ X j) (.slice Am k.snap.state.length cm) k.snap.state ∧ Enc.Sl enE w' (fun j => XS gs gd j ∨ X j) (.slice Bm k.ents.length dm) k.ents ∧ Enc.BsX w' X (.slice As k.snap.state.length cs) k.snap.state ∧ Enc.Sl enE w' X (.slice Ae k.ents.length ce) k.ents ∧ Chg [gd] w w' ∧ ∀ j, v.ownBlock = some j → v0.ownBlock = some j ∨ w.heap.size ≤ j) ∨
  (er ≠ 0 ∧ e = .returned (.tuple #[.pointer none, .agg zKept, .int .i64 er]) ∧ ∃ v, DiskAt w' gd v d ∧ Chg [gd] w w')
set_option maxHeartbeats 12800000 in
theorem open3_b (X : Avoid) (gd : Nat) (v : Value) (d : Dk) (n : Nat) (w : World) (hD : DiskAt w gd v d) (hX : Odd w X) (hgX : ¬ X gd) (hde : d.de = false) (hv : ∀ j, v.ownBlock = some j → j < w.heap.size) (hs : ∀ r ∈ (scan d.b).1, r.small) (hn : (scan d.b).1.length ≤ n) (hn2 : n ≤ 900) (hbl : d.b.length ≤ 100000) :
    Calls Try.prog 17 #[.pointer (some ⟨gd, 0, none⟩)] w fun e w' => RetOpen3 X w w' e gd v (openD d).1 (kfold Kp0 (scan d.b).1) (openD d).2 := by
  have hR_ := Blk.new w 53 zKept
  have hxw : Ext w (w.alloc (.cells zKept 53)) := (Ext.rfl' _).alloc' _
  obtain ⟨g, hg⟩ : ∃ g, w.heap.size = g := ⟨_, rfl⟩
  rw [hg] at hR_
  have hgdg : gd < g := by rw [← hg]; exact hD.blk.lt
  have hXl : ∀ j, X j → j < w.heap.size := fun j hj => by
    obtain ⟨T, cs, h1, -⟩ := hX j hj
    exact h1.lt
  obtain ⟨od, hod⟩ : ∃ q, openD d = q := ⟨_, rfl⟩
  rw [hod]
  have HOD := hide hod
  clear hod
  obtain ⟨k, hk⟩ : ∃ k, kfold Kp0 (scan d.b).1 = k := ⟨_, rfl⟩
  rw [hk]
  have HK := hide hk
  clear hk
  go_enter Try.func17, Try.ntmps17
  go_upto_region 1 with fail
  generalize w.alloc (.cells zKept 53) = w1 at *
  try rw [hg]
  have hr1 := hR_.lt
  have hD1 := hD.ext hxw
  go_wp2_with fail
  refine (disk_read gd v d w1 hD1 hde).mono ?_
  rintro e w2 ⟨y, rfl, hy, hx2⟩
  obtain ⟨Ay, cy, rfl, -, -, -⟩ := id hy.bs
  go_wp2_with fail
  refine (scan_b (.slice Ay d.b.length cy) d.b w2 hbl hy.bs).mono ?_
  rintro e w3 ⟨l, Al, cl, m, hlm, rfl, hlo, hx3⟩
  have hl1 : l = (scan d.b).1 := congrArg Prod.fst hlm.out
  have hm1 : m = (scan d.b).2 := congrArg Prod.snd hlm.out
  have hls : ∀ r ∈ l, r.wide ∧ r.small := fun r hr => ⟨Sl.wides hlo.sl r hr, hs r (by rw [← hl1]; exact hr)⟩
  have hln : l.length ≤ n := by rw [hl1]; exact hn
  have HOD2 : Hid (od = if m < d.b.length then d.op (lput l).length (Dk.repl (lput l)) id else (d, 0)) := hide (by rw [← HOD.out, hl1, hm1]; rfl)
  have HK2 : Hid (kfold Kp0 l = k) := hide (by rw [← HK.out, hl1])
  clear hl1 hm1
  have hx13 := hx2.trans' hx3
  have hD3 := hD1.ext hx13
  have hsz3 := hx13.size
  have hsl := hlo.sl
  have hlow : ∀ j, (Value.slice Al l.length cl).ownBlock = some j → w1.heap.size ≤ j := fun j hj => by have := (hlo.lt j hj).1; have := hx2.size; omega
  have hR3 := hR_.ext hx13
  have hvs : ∀ x, v ≠ .int .u8 x := fun x hv => by obtain ⟨A, c, e, -⟩ := hD.bs; rw [e] at hv; cases hv
  have hslX : Enc.Sl reE w3 (fun j => ((noneAt j ∨ j = gd) ∨ j = g) ∨ X j) (.slice Al l.length cl) l := (slre_odd (slre_apart (slre_apart hlo hD3.blk (by decide) (dcells_no8 v d hvs)) hR3 (by decide) zKept_no8) (hX.ext (hxw.trans' hx13))).sl
  have hgg : g < w1.heap.size := hr1
  go_upto_if 31 with fail
  go_cut [] (fun wx => ∃ v', od.2 = 0 ∧ DiskAt wx gd v' od.1 ∧ Chg [gd] w3 wx ∧ ∀ j, v'.ownBlock = some j → v.ownBlock = some j ∨ (w3.heap.size ≤ j ∧ j < wx.heap.size))
  case first =>
    by_cases hlt : (m : Int) < d.b.length
    · have HO : Hid (od = d.op (lput l).length (Dk.repl (lput l)) id) := hide (by rw [HOD2.out, if_pos (by omega)])
      go_wp2_with fail
      refine (lputs_b (.slice Al l.length cl) l w3 (by omega) hsl hls).mono ?_
      rintro e w4 ⟨m2, A2, c2, hm2, rfl, ha2, hx4⟩
      obtain rfl : m2 = lput l := hm2.out
      have hll := lput_len (l := l) fun r hr => (hls r hr).2
      go_wp2_with fail
      refine (disk_replace gd v (.slice A2 (lput l).length c2) d (lput l) w4 (hD3.ext hx4) ha2.bs (ha2.off (fun j hj => by have := List.mem_singleton.1 hj; omega)) (by omega)).mono ?_
      rintro e w5 ⟨rfl, v', hd5, hc5, hn5⟩
      rw [← HO.out] at hd5 ⊢
      have hn6 : ∀ j, v'.ownBlock = some j → v.ownBlock = some j ∨ (w3.heap.size ≤ j ∧ j < w5.heap.size) := fun j hj => (hn5 j hj).imp id fun h => by have := hx4.size; omega
      rcases Bool.eq_false_or_eq_true (od.2 == 0) with he | he
      · go_wp2_with fail
        go_meet
        case rel => exact ⟨v', by simpa using he, hd5, (hx4.chg _).trans hc5, hn6⟩
      · have hR5 := (hR3.ext hx4).chg hc5 (by simp; omega)
        have r0 := (hR5.cell 0).trans rfl
        have f0 := hR5.frozen 0
        have r1 := (hR5.cell 1).trans rfl
        have f1 := hR5.frozen 1
        have r2 := (hR5.cell 2).trans rfl
        have f2 := hR5.frozen 2
        have r3 := (hR5.cell 3).trans rfl
        have f3 := hR5.frozen 3
        have r4 := (hR5.cell 4).trans rfl
        have f4 := hR5.frozen 4
        have r5 := (hR5.cell 5).trans rfl
        have f5 := hR5.frozen 5
        go_wp2
        try simp only [Exit.inBlock, Exit.then]
        refine bodyPost_ret (results_tct rfl _ _ g 53 zKept (0, 0) _ rfl (Blk.sixK hR5 (.int .u64 0) (.int .i64 0) (.int .u64 0) (.int .u64 0) (.slice none 0 0) (.slice none 0 0)) Try.underlying53 rfl (by kernel_rfl)) rfl ?_
        have hcf : Chg [g] w5 _ := (Chg.refl [g] w5).sixK (g := g) (by simp) (.int .u64 0) (.int .i64 0) (.int .u64 0) (.int .u64 0) (.slice none 0 0) (.slice none 0 0)
        exact .inr ⟨by simpa using he, rfl, v', hd5.chg hcf (by simp; omega) (Off.of_own fun j hj hm => by have := List.mem_singleton.1 hm; rcases hn6 j hj with h | h; (have := hv j h; omega); omega), ((((hxw.trans' hx13).trans' hx4).chg [gd]).trans hc5).then_new hcf (by simp; omega)⟩
    · have HO : Hid (od = (d, 0)) := hide (by rw [HOD2.out, if_neg (by omega)])
      go_wp2_with fail
      go_meet
      case rel => exact ⟨v, by rw [HO.out], by rw [HO.out]; exact hD3, Chg.refl _ _, fun j hj => .inl hj⟩
  case rest =>
    obtain ⟨v', he0, hD5, hc5, hn5⟩ := hcut
    have hc5' := hc5
    have hR5 := hR3.chg hc5 (by simp; omega)
    have hsl5 := (hslX.chg hc5 (fun j hj _ => .inl (.inl (.inr (List.mem_singleton.1 hj))))).mono (Y := fun j => (j = gd ∨ j = g) ∨ X j) (fun j _ h => h.elim (fun h => .inl (h.elim (fun h => .inl (.inr h)) .inr)) .inr)
    have hcw : Chg [gd] w wc := ((hxw.trans' hx13).chg [gd]).trans hc5
    have hsz5 := hc5.size
    have hv5 : ∀ j, v'.ownBlock = some j → j < w.heap.size ∨ (w3.heap.size ≤ j ∧ j < wc.heap.size) := fun j hj => (hn5 j hj).imp (hv j) id
    generalize wc = w6 at *
    have hF := hide (fun W (hx : Ext w6 W) => fold_b (fun j => (j = gd ∨ j = g) ∨ X j) Kp0 (.slice none 0 0) (.slice none 0 0) (.slice Al l.length cl) l 0 W (fun j hj => by have := hx.size; rcases hj with (h | h) | h; omega; omega; have := hXl j h; omega) Kp0.wide_ Kp0.small_ (Enc.BsX.nil _ _) (Enc.Sl.nil _ _ _) (hsl5.ext hx) hls (by omega))
    rw [HK2.out] at hF
    have hkw : k.wide := by rw [← HK2.out]; exact Kp.wide.fold l Kp0.wide_ fun r hr => (hls r hr).1
    have hks : k.small n := by rw [← HK2.out]; exact (Kp.small.fold l Kp0.small_ fun r hr => (hls r hr).2).mono (by omega)
    go_wp2_with fail
    refine (hF.out _ (Ext.rfl' _)).mono ?_
    rintro e w7 ⟨An, cn, Bn, dn, rfl, hnb, hno, hx7⟩
    obtain ⟨gs, hgs⟩ : ∃ g_, w7.heap.size = g_ := ⟨_, rfl⟩
    have hS := Blk.new w7 113 #[.pointer (some ⟨gd, 0, none⟩), .int .u64 k.hard.term, .int .i64 k.hard.vote, .int .u64 k.snap.index, .int .u64 k.snap.term, .slice An k.snap.state.length cn, .slice Bn k.ents.length dn]
    rw [hgs] at hS
    have hz : Ext w7 (w7.alloc (.cells #[.pointer (some ⟨gd, 0, none⟩), .int .u64 k.hard.term, .int .i64 k.hard.vote, .int .u64 k.snap.index, .int .u64 k.snap.term, .slice An k.snap.state.length cn, .slice Bn k.ents.length dn] 113)) := (Ext.rfl' _).alloc' _
    have hgs6 : w6.heap.size ≤ gs := by rw [← hgs]; exact hx7.size
    have hnbX := (hnb.mono (Y := fun j => X j ∨ j = g) (fun j _ h => .inl (h.elim .inr fun h => .inl (.inr h)))).ext hz
    have hnoX := (hno.sl.mono (Y := fun j => X j ∨ j = g) (fun j _ h => h.elim .inr fun h => .inl (.inr h))).ext hz
    have hnb' := (hnb.mono (Y := fun j => (j = gs ∨ j = gd) ∨ j = g) (fun j hj h => by
      rcases h with (h | h) | h
      · omega
      · exact .inl (.inl (.inl h))
      · exact .inl (.inl (.inr h)))).ext hz
    have hno' := (hno.sl.mono (Y := fun j => (j = gs ∨ j = gd) ∨ j = g) (fun j hj h => by
      rcases h with (h | h) | h
      · omega
      · exact .inl (.inl h)
      · exact .inl (.inr h))).ext hz
    go_upto_region 12 with fail
    try rw [hgs]
    generalize (w7.alloc (.cells #[.pointer (some ⟨gd, 0, none⟩), .int .u64 k.hard.term, .int .i64 k.hard.vote, .int .u64 k.snap.index, .int .u64 k.snap.term, .slice An k.snap.state.length cn, .slice Bn k.ents.length dn] 113)) = w8 at *
    have hx8 := hx7.trans' hz
    have hSo : SoAt w8 gs gd k An cn Bn dn := ⟨hS, hnb'.mono fun _ _ h => .inl h, hno'.mono fun _ _ h => .inl h⟩
    have hD8 := hD5.ext hx8
    have hgd8 : gd < w8.heap.size := hD8.blk.lt
    go_wp2_with fail
    refine (kept_b gs gd k An Bn cn dn n w8 hSo hkw hks (by omega) hgd8).mono ?_
    rintro e w9 ⟨Am, cm, Bm, dm, rfl, hmb, hmo, hx9⟩
    have hR9 := hR5.ext (hx8.trans' hx9)
    have r0 := (hR9.cell 0).trans rfl
    have r1 := (hR9.cell 1).trans rfl
    have r2 := (hR9.cell 2).trans rfl
    have r3 := (hR9.cell 3).trans rfl
    have r4 := (hR9.cell 4).trans rfl
    have r5 := (hR9.cell 5).trans rfl
    have f0 := hR9.frozen 0
    have f1 := hR9.frozen 1
    have f2 := hR9.frozen 2
    have f3 := hR9.frozen 3
    have f4 := hR9.frozen 4
    have f5 := hR9.frozen 5
    go_wp2
    try simp only [Exit.inBlock, Exit.then]
    have hX9 : Odd w9 X := (((hX.ext (hxw.trans' hx13)).chg hc5' (fun j hj hm => hgX (List.mem_singleton.1 hm ▸ hj))).ext (hx8.trans' hx9))
    have hcf : Chg [g] w9 _ := (Chg.refl [g] w9).sixK (g := g) (by simp) (.int .u64 k.hard.term) (.int .i64 k.hard.vote) (.int .u64 k.snap.index) (.int .u64 k.snap.term) (.slice Am k.snap.state.length cm) (.slice Bm k.ents.length dm)
    refine bodyPost_ret (results_tct rfl _ _ g 53 #[.int .u64 k.hard.term, .int .i64 k.hard.vote, .int .u64 k.snap.index, .int .u64 k.snap.term, .slice Am k.snap.state.length cm, .slice Bm k.ents.length dm] (0, 0) _ rfl (Blk.sixK hR9 _ _ _ _ _ _) Try.underlying53 rfl (by kernel_rfl)) rfl ?_
    have hsz9 := (hx8.trans' hx9).size
    have hvg : ∀ j, v'.ownBlock = some j → j ≠ g ∧ j ≠ gs := fun j hj => by
      rcases hv5 j hj with h | h
      · omega
      · omega
    refine .inl ⟨he0, gs, v', An, cn, Bn, dn, Am, cm, Bm, dm, rfl, ⟨(hD8.ext hx9).chg hcf (by simp; omega) (Off.of_own fun j hj hm => (hvg j hj).1 (List.mem_singleton.1 hm)), ⟨(hSo.blk.ext hx9).chg hcf (by simp; omega), ((hnb'.ext hx9).chg hcf (fun j hj _ => .inr (List.mem_singleton.1 hj))).mono (fun j _ h => .inl h), ((hno'.ext hx9).chg hcf (fun j hj _ => .inr (List.mem_singleton.1 hj))).mono (fun j _ h => .inl h)⟩, by omega, fun j hj => (hvg j hj).2, hkw, fun j hj => by have := hcf.size; rcases hv5 j hj with h | h <;> omega⟩, by omega, ?_, ?_, ?_, ?_, ?_, fun j hj => (hn5 j hj).imp id fun h => by have := hxw.size; have := hsz3; omega⟩
    · exact ((bsx_odd (bsx_apart hmb hR9 zKept_no8) hX9).chg hcf (fun j hj _ => .inl (.inr (List.mem_singleton.1 hj)))).mono (fun j _ h => h.elim (fun h => .inl (.inl (.inl h))) .inr)
    · exact ((slen_odd (slen_apart hmo hR9 (by decide) zKept_no8) hX9).sl.chg hcf (fun j hj _ => .inl (.inr (List.mem_singleton.1 hj)))).mono (fun j _ h => h.elim (fun h => .inl (.inl h)) .inr)
    · exact ((hnbX.ext hx9).chg hcf (fun j hj _ => .inr (List.mem_singleton.1 hj))).mono (fun j _ h => .inl h)
    · exact ((hnoX.ext hx9).chg hcf (fun j hj _ => .inr (List.mem_singleton.1 hj))).mono (fun j _ h => .inl h)
    · exact (hcw.trans ((hx8.trans' hx9).chg [gd])).then_new hcf (by simp; omega)
end Go.Proofs.Ytlblgopfdadalaa
namespace Go.Proofs.Ytlblgopfdadalaa
set_option linter.unusedVariables false
set_option linter.unusedSimpArgs false
set_option linter.unnecessarySimpa false
set_option maxRecDepth 100000
open Go.RowKit
/-- what is known keeps votes and terms that may be -/
structure Kp.good (k : Kp) : Prop where
  v0 : 0 ≤ k.hard.vote
  v1 : k.hard.vote ≤ 7
  es : ∀ e ∈ k.ents, 0 ≤ e.term ∧ e.term ≤ 18446744073709551615
theorem Kp0.good_ : Kp0.good := ⟨by simp [Kp0, Hd0], by simp [Kp0, Hd0], by simp [Kp0]⟩
theorem ksnapE_mem {k : Kp} {s : Sn} {e : En} (h : e ∈ ksnapE k s) : e ∈ k.ents := by
  unfold ksnapE at h
  split at h
  · exact List.mem_of_mem_drop h
  · cases h
theorem Kp.good.one {k : Kp} (h : k.good) {r : Rec} (hr : r.wide) (hm : may r = true) : (kone k r).good := by
  unfold kone
  split
  · rename_i h1
    unfold may at hm
    rw [if_pos h1] at hm
    simp only [Bool.and_eq_true, decide_eq_true_eq] at hm
    exact ⟨hm.1, hm.2, h.es⟩
  · split
    · refine ⟨h.v0, h.v1, fun e he => ?_⟩
      rcases List.mem_append.1 he with he | he
      · exact h.es e he
      · rw [List.mem_singleton.1 he]
        exact ⟨hr.e0, hr.e1⟩
    · split
      · exact ⟨h.v0, h.v1, fun e he => h.es e (List.mem_of_mem_take he)⟩
      · split
        · unfold ksnap
          split
          · exact h
          · exact ⟨h.v0, h.v1, fun e he => h.es e (ksnapE_mem he)⟩
        · exact h
theorem Kp.good.fold : ∀ (l : List Rec) {k : Kp}, k.good → (∀ r ∈ l, r.wide ∧ may r = true) → (kfold k l).good
  | [], _, h, _ => h
  | r :: l, _, h, hr => Kp.good.fold l (h.one (hr r List.mem_cons_self).1 (hr r List.mem_cons_self).2) fun q hq => hr q (List.mem_cons_of_mem _ hq)
theorem kone_fixr (k : Kp) (r : Rec) : kone k (fixr r) = kone k r := by
  unfold fixr
  split
  · rename_i h; simp [kone, h]
  · split
    · rename_i h; simp [kone, h]
    · split
      · rename_i h; simp [kone, h]
      · split
        · rename_i h; simp [kone, h]
        · rename_i h1 h2 h3 h4; simp [kone, h1, h2, h3, h4]
theorem kfold_right : ∀ (l : List Rec) (k : Kp), (∀ r ∈ l, may r = true) → kfold k (right l) = kfold k l
  | [], _, _ => rfl
  | r :: l, k, h => by
    unfold right
    rw [if_pos (h r List.mem_cons_self), kfold_cons, kfold_cons, kone_fixr]
    exact kfold_right l _ fun q hq => h q (List.mem_cons_of_mem _ hq)
theorem krecs_may {k : Kp} (h : k.good) : ∀ r ∈ krecs k, may r = true := by
  intro r hr
  unfold krecs at hr
  rcases List.mem_cons.1 hr with rfl | hr
  · simp [may, rHard, h.v0, h.v1]
  · rcases List.mem_append.1 hr with hr | hr
    · split at hr
      · cases hr
      · rw [List.mem_singleton.1 hr]; simp [may, rSnap]
    · obtain ⟨e, -, rfl⟩ := List.mem_map.1 hr
      simp [may, rEnt]
/-- a disk that lives, whole, of at most n records, that come to k -/
def Dk.whole (d : Dk) (k : Kp) (n : Nat) : Prop := ∃ m : List Rec, d.live (lput m) ∧ (∀ r ∈ m, (r.wide ∧ r.small) ∧ may r = true) ∧ m.length ≤ n ∧ kfold Kp0 m = k
theorem whole_new : Dk.new.whole Kp0 0 := ⟨[], live_new, by simp, Nat.le_refl _, rfl⟩
theorem Dk.whole.kp {d : Dk} {k : Kp} {n : Nat} (h : d.whole k n) : k.sound ∧ k.wide ∧ k.small n ∧ k.good := by
  obtain ⟨m, -, h2, h3, rfl⟩ := h
  exact ⟨Kp.sound.fold m Kp0.sound_, Kp.wide.fold m Kp0.wide_ fun r hr => (h2 r hr).1.1, (Kp.small.fold m Kp0.small_ fun r hr => (h2 r hr).1.2).mono (by omega), Kp.good.fold m Kp0.good_ fun r hr => ⟨(h2 r hr).1.1, (h2 r hr).2⟩⟩
theorem Dk.whole.open_ {d : Dk} {k : Kp} {n : Nat} (h : d.whole k n) : openD d = (d, 0) ∧ kfold Kp0 (scan d.b).1 = k ∧ (∀ r ∈ (scan d.b).1, r.small) ∧ (scan d.b).1.length ≤ n ∧ d.b.length ≤ 85 * n ∧ d.de = false ∧ d.sy = d.b.length := by
  obtain ⟨m, h1, h2, h3, rfl⟩ := h
  obtain ⟨h4, h5⟩ := h1.open_ fun r hr => (h2 r hr).1
  have h6 := lput_len (l := m) fun r hr => (h2 r hr).1.2
  refine ⟨h4, by rw [h5]; exact kfold_right m _ fun r hr => (h2 r hr).2, ?_, ?_, by rw [h1.b]; omega, h1.de, by rw [h1.sy, h1.b]⟩
  · rw [h5]
    exact fun r hr => (right_mem (fun r hr => (h2 r hr).1) r hr).2.2.2
  · rw [h5]
    exact Nat.le_trans (right_len m) h3
theorem Dk.whole.save_ {d : Dk} {k : Kp} {n : Nat} (h : d.whole k n) {l : List Rec} (hl : ∀ r ∈ l, (r.wide ∧ r.small) ∧ may r = true) (hn : n + l.length ≤ 1000) :
    (save d k l).2 = (kfold k l, 0) ∧ (save d k l).1.whole (kfold k l) (n + l.length + 2) := by
  have hk := h.kp
  obtain ⟨m, h1, h2, h3, h4⟩ := h
  have h6 := lput_len (l := m) fun r hr => (h2 r hr).1.2
  have h7 := lput_len (l := l) fun r hr => (hl r hr).1.2
  by_cases hne : l = []
  · subst hne
    have : save d k [] = (d, k, 0) := by unfold save; rw [if_pos rfl]
    rw [this]
    exact ⟨rfl, m, h1, h2, by omega, h4⟩
  · by_cases hs : l.any isSnap = true
    · have gk := Kp.good.fold l hk.2.2.2 fun r hr => ⟨(hl r hr).1.1, (hl r hr).2⟩
      have sk := Kp.sound.fold l hk.1
      have wk := Kp.wide.fold l hk.2.1 fun r hr => (hl r hr).1.1
      have mk := Kp.small.fold l hk.2.2.1 fun r hr => (hl r hr).1.2
      have hr := krecs_small mk wk gk.es
      have h8 := lput_len fun r h => (hr.1 r h).2
      have h9 := hr.2
      obtain ⟨e1, e2⟩ := save_snap (k := k) h1 hs (by omega)
      exact ⟨e1, _, e2, fun r h => ⟨hr.1 r h, krecs_may gk r h⟩, h9, kfold_recs sk⟩
    · obtain ⟨e1, e2⟩ := save_live (k := k) h1 hne (by simpa using hs) (by omega)
      rw [← lput_app] at e2
      refine ⟨e1, _, e2, fun r hr => ?_, by simp; omega, by rw [kfold_app, h4]⟩
      rcases List.mem_append.1 hr with hr | hr
      · exact h2 r hr
      · exact hl r hr
end Go.Proofs.Ytlblgopfdadalaa
namespace Go.Proofs.Ytlblgopfdadalaa
set_option linter.unusedVariables false
set_option linter.unusedSimpArgs false
set_option linter.unnecessarySimpa false
set_option maxRecDepth 100000
open Go.RowKit
/-- a disk that lives, armed or not, whole, of at most n records, that come to k -/
def Dk.aw (d : Dk) (k : Kp) (n : Nat) : Prop := ∃ m : List Rec, d.b = lput m ∧ d.sy = (lput m).length ∧ d.de = false ∧ (∀ r ∈ m, (r.wide ∧ r.small) ∧ may r = true) ∧ m.length ≤ n ∧ kfold Kp0 m = k
/-- a dead disk: behind what came to k some bytes of l -/
def Dk.half_ (d : Dk) (k : Kp) (l : List Rec) (n : Nat) : Prop := ∃ (m : List Rec) (p : Nat), d.b = lput m ++ (lput l).take p ∧ d.sy = (lput m).length ∧ d.de = true ∧ d.ar = false ∧ (∀ r ∈ m, (r.wide ∧ r.small) ∧ may r = true) ∧ m.length ≤ n ∧ kfold Kp0 m = k
theorem Dk.whole.aw {d : Dk} {k : Kp} {n : Nat} (h : d.whole k n) : d.aw k n := by
  obtain ⟨m, h1, h2, h3, h4⟩ := h
  exact ⟨m, h1.b, by rw [h1.sy], h1.de, h2, h3, h4⟩
theorem Dk.aw.arm {d : Dk} {k : Kp} {n : Nat} (h : d.aw k n) (a p : Int) : (d.arm a p).aw k n := h
theorem Dk.aw.mono {d : Dk} {k : Kp} {n n' : Nat} (h : d.aw k n) (hn : n ≤ n') : d.aw k n' := by
  obtain ⟨m, h1, h2, h3, h4, h5, h6⟩ := h
  exact ⟨m, h1, h2, h3, h4, by omega, h6⟩
theorem Dk.half_.mono {d : Dk} {k : Kp} {l : List Rec} {n n' : Nat} (h : d.half_ k l n) (hn : n ≤ n') : d.half_ k l n' := by
  obtain ⟨m, p, h1, h2, h3, h4, h5, h6, h7⟩ := h
  exact ⟨m, p, h1, h2, h3, h4, h5, by omega, h7⟩
theorem Dk.aw.kp {d : Dk} {k : Kp} {n : Nat} (h : d.aw k n) : k.sound ∧ k.wide ∧ k.small n ∧ k.good := by
  obtain ⟨m, -, -, -, h2, h3, rfl⟩ := h
  exact ⟨Kp.sound.fold m Kp0.sound_, Kp.wide.fold m Kp0.wide_ fun r hr => (h2 r hr).1.1, (Kp.small.fold m Kp0.small_ fun r hr => (h2 r hr).1.2).mono (by omega), Kp.good.fold m Kp0.good_ fun r hr => ⟨(h2 r hr).1.1, (h2 r hr).2⟩⟩
theorem cut_app (a c : Bytes) (d : Dk) (p : Int) (hb : d.b = a ++ c) (hs : d.sy = a.length) : ∃ q : Nat, (d.cut p).b = a ++ c.take q := by
  unfold Dk.cut Dk.left
  simp only
  rw [hb, hs, List.length_append]
  refine ⟨((a.length : Int) + max 0 (min p (((a.length + c.length : Nat) : Int) - a.length))).toNat - a.length, ?_⟩
  rw [List.take_append]
  congr 1
  exact List.take_of_length_le (by omega)
theorem Dk.aw.crash {d : Dk} {k : Kp} {n : Nat} (h : d.aw k n) (l : List Rec) (p : Int) : (d.crash p).half_ k l n := by
  obtain ⟨m, h1, h2, h3, h4, h5, h6⟩ := h
  obtain ⟨q, hq⟩ := cut_app (lput m) [] d p (by rw [h1]; simp) h2
  exact ⟨m, 0, by show (d.cut p).b = _; rw [hq]; simp, h2, rfl, rfl, h4, h5, h6⟩
theorem Dk.half_.crash {d : Dk} {k : Kp} {l : List Rec} {n : Nat} (h : d.half_ k l n) (p : Int) : (d.crash p).half_ k l n := by
  obtain ⟨m, p0, h1, h2, h3, h4, h5, h6, h7⟩ := h
  obtain ⟨q, hq⟩ := cut_app (lput m) ((lput l).take p0) d p h1 h2
  exact ⟨m, min q p0, by show (d.cut p).b = _; rw [hq, List.take_take], h2, rfl, rfl, h5, h6, h7⟩
theorem right_all : ∀ {l : List Rec}, (∀ r ∈ l, may r = true) → right l = l.map fixr
  | [], _ => rfl
  | r :: l, h => by
    unfold right
    rw [if_pos (h r List.mem_cons_self), List.map_cons, right_all fun q hq => h q (List.mem_cons_of_mem _ hq)]
theorem take_right {l : List Rec} (h : ∀ r ∈ l, may r = true) (j : Nat) : (right l).take j = right (l.take j) := by
  rw [right_all h, right_all fun r hr => h r (List.mem_of_mem_take hr), List.map_take]
/-- behind power -/
theorem Dk.half_.open_ {d : Dk} {k : Kp} {l : List Rec} {n : Nat} (h : d.half_ k l n) (hl : ∀ r ∈ l, (r.wide ∧ r.small) ∧ may r = true) (hn : n + l.length ≤ 900) :
    ∃ j, j ≤ l.length ∧ (openD d.power).2 = 0 ∧ (openD d.power).1.whole (kfold k (l.take j)) (n + l.length) ∧ kfold Kp0 (scan d.power.b).1 = kfold k (l.take j) ∧ (∀ r ∈ (scan d.power.b).1, r.small) ∧ (scan d.power.b).1.length ≤ n + l.length ∧ d.power.b.length ≤ 85 * (n + l.length) ∧ d.power.de = false := by
  obtain ⟨m, p, h1, h2, h3, h4, h5, h6, h7⟩ := h
  have hok : ∀ r ∈ m, r.wide ∧ r.small := fun r hr => (h5 r hr).1
  have hokl : ∀ r ∈ l, r.wide ∧ r.small := fun r hr => (hl r hr).1
  have e6 := lput_len (l := m) fun r hr => (h5 r hr).1.2
  have e7 := lput_len (l := l) fun r hr => (hl r hr).1.2
  obtain ⟨j, hj, hs1, hs2, hs3, -⟩ := scan_cut l (min p (lput l).length) hokl (by omega)
  have htk : (lput l).take (min p (lput l).length) = (lput l).take p := by
    rcases Nat.le_total p (lput l).length with hp | hp
    · rw [Nat.min_eq_left hp]
    · rw [Nat.min_eq_right hp, List.take_length, List.take_of_length_le hp]
  rw [htk] at hs1 hs2 hs3
  rw [take_right fun r hr => (hl r hr).2] at hs1 hs3
  rw [right_put] at hs3
  have hrl := right_len l
  have hsc : scan (lput m ++ (lput l).take p) = (right m ++ right (l.take j), (lput m).length + (scan ((lput l).take p)).2) := by rw [scan_put m _ hok, hs1]
  have hf : kfold Kp0 (right m ++ right (l.take j)) = kfold k (l.take j) := by
    rw [kfold_app, kfold_right m _ fun r hr => (h5 r hr).2, h7, kfold_right _ _ fun r hr => (hl r (List.mem_of_mem_take hr)).2]
  have hjl : j ≤ l.length := by omega
  have hrj := right_len (l.take j)
  have hlt := List.length_take (i := j) (l := l)
  have hmm := right_mem hok
  have hmj := right_mem (l := l.take j) fun r hr => hokl r (List.mem_of_mem_take hr)
  have hal : ∀ r ∈ right m ++ right (l.take j), (r.wide ∧ r.small) ∧ may r = true := fun r hr => by
    rcases List.mem_append.1 hr with hr | hr
    · exact ⟨(hmm r hr).2.2, (hmm r hr).1⟩
    · exact ⟨(hmj r hr).2.2, (hmj r hr).1⟩
  have hrm := right_len m
  have hpb : d.power.b = lput m ++ (lput l).take p := h1
  have hln : (right m ++ right (l.take j)).length ≤ n + l.length := by rw [List.length_append]; omega
  have e8 := lput_len (l := right m ++ right (l.take j)) fun r hr => (hal r hr).1.2
  refine ⟨j, hjl, ?_⟩
  rw [hpb, hsc]
  refine ⟨?_, ?_, hf, fun r hr => (hal r hr).1.2, hln, by simp only [List.length_append, List.length_take]; omega, rfl⟩
  · unfold openD
    rw [hpb, hsc]
    simp only
    split
    · unfold Dk.op
      rw [if_neg (by simp [Dk.power]), if_neg (by omega), if_neg (by simp [Dk.power, h4])]
    · rfl
  · unfold openD
    rw [hpb, hsc]
    simp only
    split
    · unfold Dk.op
      rw [if_neg (by simp [Dk.power]), if_neg (by omega), if_neg (by simp [Dk.power, h4])]
      rw [if_neg (by simp [Dk.power, h4])]
      exact ⟨right m ++ right (l.take j), ⟨rfl, rfl, rfl, h4⟩, hal, hln, hf⟩
    · rename_i hge
      -- all of it is records
      have h9 : (lput l).take p = lput (l.take j) := by
        rw [hs3]
        simp only [List.length_append, List.length_take] at hge
        have h10 : (scan ((lput l).take p)).2 = min p (lput l).length := by omega
        rw [h10, htk]
      refine ⟨m ++ l.take j, ⟨?_, ?_, rfl, h4⟩, fun r hr => ?_, by simp; omega, by rw [kfold_app, h7]⟩
      · rw [hpb, h9, lput_app]
      · show ((d.b.length : Nat) : Int) = _
        rw [h1, h9, lput_app]
      · rcases List.mem_append.1 hr with hr | hr
        · exact h5 r hr
        · exact hl r (List.mem_of_mem_take hr)
theorem save_cases {d : Dk} {k : Kp} {n : Nat} (h : d.aw k n) {l : List Rec} (hl : ∀ r ∈ l, (r.wide ∧ r.small) ∧ may r = true) (hn : n + l.length ≤ 900) :
    ((save d k l).2 = (kfold k l, 0) ∧ (save d k l).1.aw (kfold k l) (n + l.length + 2)) ∨ ((save d k l).2 = (k, 16) ∧ (save d k l).1.half_ k l n) := by
  have hk := h.kp
  obtain ⟨m, h1, h2, h3, h4, h5, h6⟩ := h
  have e6 := lput_len (l := m) fun r hr => (h4 r hr).1.2
  have e7 := lput_len (l := l) fun r hr => (hl r hr).1.2
  by_cases hne : l = []
  · subst hne
    refine .inl ?_
    have : save d k [] = (d, k, 0) := by unfold save; rw [if_pos rfl]
    rw [this]
    exact ⟨rfl, m, h1, h2, h3, h4, by omega, h6⟩
  · unfold save
    rw [if_neg hne]
    by_cases hs : l.any isSnap = true
    · have gk := Kp.good.fold l hk.2.2.2 fun r hr => ⟨(hl r hr).1.1, (hl r hr).2⟩
      have sk := Kp.sound.fold l hk.1
      have wk := Kp.wide.fold l hk.2.1 fun r hr => (hl r hr).1.1
      have mk := Kp.small.fold l hk.2.2.1 fun r hr => (hl r hr).1.2
      have hr := krecs_small mk wk gk.es
      have h8 := lput_len fun r h => (hr.1 r h).2
      have h9 := hr.2
      unfold saveD
      rw [if_pos hs]
      unfold Dk.op
      rw [if_neg (by simp [h3]), if_neg (by omega)]
      by_cases ha : d.ar = true ∧ d.at_ = 0
      · rw [if_pos ha]
        refine .inr ⟨by simp, ?_⟩
        exact Dk.aw.crash ⟨m, h1, h2, h3, h4, h5, h6⟩ l _
      · rw [if_neg ha]
        refine .inl ⟨by simp, krecs (kfold k l), rfl, rfl, ?_, fun r h => ⟨hr.1 r h, krecs_may gk r h⟩, h9, kfold_recs sk⟩
        show (if d.ar = true then { d with at_ := d.at_ - 1 } else d).de = false
        split <;> exact h3
    · unfold saveD
      rw [if_neg hs]
      have hop : ∀ (e : Dk) (z : Int) (W : Dk → Dk), e.de = false → z ≤ 200000 → ∀ H : Dk → Dk, e.op z W H = ((H e).crash (H e).pt, 16) ∨ ∃ a : Int, e.op z W H = (W (if e.ar = true then { e with at_ := a } else e), 0) := by
        intro e z W he hz H
        unfold Dk.op
        rw [if_neg (by simp [he]), if_neg (by omega)]
        by_cases ha : e.ar = true ∧ e.at_ = 0
        · rw [if_pos ha]; exact .inl rfl
        · rw [if_neg ha]; exact .inr ⟨_, rfl⟩
      rcases hop d (d.b.length + (lput l).length) (Dk.app (lput l)) h3 (by rw [h1]; omega) (Dk.app (lput l)) with hA | ⟨a, hA⟩
      · rw [hA]
        rw [if_neg (by simp)]
        refine .inr ⟨by simp, ?_⟩
        obtain ⟨q, hq⟩ := cut_app (lput m) (lput l) (d.app (lput l)) (d.app (lput l)).pt (by show d.b ++ _ = _; rw [h1]) h2
        exact ⟨m, q, hq, h2, rfl, rfl, h4, h5, h6⟩
      · rw [hA]
        simp only [if_true]
        obtain ⟨d1, hd1⟩ : ∃ d1, Dk.app (lput l) (if d.ar = true then { d with at_ := a } else d) = d1 := ⟨_, rfl⟩
        have k1 : d1.b = lput m ++ lput l := by rw [← hd1]; unfold Dk.app; split <;> simp [h1]
        have k2 : d1.sy = (lput m).length := by rw [← hd1]; unfold Dk.app; split <;> simp [h2]
        have k3 : d1.de = false := by rw [← hd1]; unfold Dk.app; split <;> simp [h3]
        rw [hd1]
        rcases hop d1 0 Dk.last k3 (by omega) id with hB | ⟨b, hB⟩
        · rw [hB]
          refine .inr ⟨by simp, ?_⟩
          obtain ⟨q, hq⟩ := cut_app (lput m) (lput l) d1 d1.pt k1 k2
          exact ⟨m, q, hq, k2, rfl, rfl, h4, h5, h6⟩
        · rw [hB]
          refine .inl ⟨by simp, m ++ l, ?_, ?_, ?_, fun r hr => ?_, by simp; omega, by rw [kfold_app, h6]⟩
          · show (if d1.ar = true then { d1 with at_ := b } else d1).b = _
            rw [lput_app, ← k1]; split <;> rfl
          · show (((if d1.ar = true then { d1 with at_ := b } else d1).b.length : Nat) : Int) = _
            rw [lput_app, ← k1]; split <;> rfl
          · show (if d1.ar = true then { d1 with at_ := b } else d1).de = _
            split <;> exact k3
          · rcases List.mem_append.1 hr with hr | hr
            · exact h4 r hr
            · exact hl r hr
end Go.Proofs.Ytlblgopfdadalaa
namespace Go.Proofs.Ytlblgopfdadalaa
set_option linter.unusedVariables false
set_option linter.unusedSimpArgs false
set_option linter.unnecessarySimpa false
set_option maxRecDepth 100000
open Go.RowKit
theorem StD.off_ {S : List Nat} {X : Avoid} {w w' : World} {gs gd : Nat} {k : Kp} {d : Dk} {v : Value} {As Ae : Option Addr} {cs ce : Nat} (h : StD w gs gd k d v As cs Ae ce) (hc : Chg S w w') (h1 : gs ∉ S) (h2 : gd ∉ S) (hS : ∀ j ∈ S, j < w.heap.size → X j)
    (hs : Enc.BsX w X (.slice As k.snap.state.length cs) k.snap.state) (he : Enc.Sl enE w X (.slice Ae k.ents.length ce) k.ents) (hv : ∀ j, v.ownBlock = some j → j ∉ S) :
    StD w' gs gd k d v As cs Ae ce ∧ Enc.BsX w' X (.slice As k.snap.state.length cs) k.snap.state ∧ Enc.Sl enE w' X (.slice Ae k.ents.length ce) k.ents :=
  ⟨⟨h.disk.chg hc h2 (Off.of_own fun j hj hm => hv j hj hm), ⟨h.so.blk.chg hc h1, ((bsx_or h.so.bs hs).chg hc (fun j hj hl => .inr (hS j hj hl))).mono (fun j _ h => .inl h), ((sl_or h.so.es he).chg hc (fun j hj hl => .inr (hS j hj hl))).mono (fun j _ h => .inl h)⟩, h.ne, h.own, h.wide, fun j hj => Nat.lt_of_lt_of_le (h.lt j hj) hc.size⟩, hs.chg hc hS, he.chg hc hS⟩
theorem RStD.off_ {S : List Nat} {X : Avoid} {w w' : World} {gs gd : Nat} {k : Kp} {d : Dk} {v : Value} {As Ae : Option Addr} {cs ce : Nat} (h : RStD w gs gd k d v As cs Ae ce) (hc : Chg S w w') (h1 : gs ∉ S) (h2 : gd ∉ S) (hS : ∀ j ∈ S, j < w.heap.size → X j)
    (hs : Enc.BsX w X (.slice As k.snap.state.length cs) k.snap.state) (he : Enc.Sl enE w X (.slice Ae k.ents.length ce) k.ents) (hv : ∀ j, v.ownBlock = some j → j ∉ S) :
    RStD w' gs gd k d v As cs Ae ce ∧ Enc.BsX w' X (.slice As k.snap.state.length cs) k.snap.state ∧ Enc.Sl enE w' X (.slice Ae k.ents.length ce) k.ents :=
  ⟨⟨h.disk.chg hc h2 (Off.of_own fun j hj hm => hv j hj hm), ⟨h.so.blk.chg hc h1, ((bsx_or h.so.bs hs).chg hc (fun j hj hl => .inr (hS j hj hl))).mono (fun j _ h => .inl h), ((sl_or h.so.es he).chg hc (fun j hj hl => .inr (hS j hj hl))).mono (fun j _ h => .inl h)⟩, h.ne, h.own, h.wide, fun j hj => Nat.lt_of_lt_of_le (h.lt j hj) hc.size⟩, hs.chg hc hS, he.chg hc hS⟩
/-- both stores on their disks -/
def TwoSt (w0 w : World) (gs gd rs rd : Nat) (k k2 : Kp) (d r : Dk) : Prop := ∃ (v : Value) (As : Option Addr) (cs : Nat) (Ae : Option Addr) (ce : Nat) (u : Value) (Bs' : Option Addr) (bs : Nat) (Be : Option Addr) (c4 : Nat),
  StD w gs gd k d v As cs Ae ce ∧ RStD w rs rd k2 r u Bs' bs Be c4 ∧
  (Enc.BsX w (XS rs rd) (.slice As k.snap.state.length cs) k.snap.state ∧ Enc.Sl enE w (XS rs rd) (.slice Ae k.ents.length ce) k.ents ∧ ∀ j, v.ownBlock = some j → ¬ XS rs rd j) ∧
  (Enc.BsX w (XS gs gd) (.slice Bs' k2.snap.state.length bs) k2.snap.state ∧ Enc.Sl enE w (XS gs gd) (.slice Be k2.ents.length c4) k2.ents ∧ ∀ j, u.ownBlock = some j → ¬ XS gs gd j) ∧
  Ext w0 w ∧ (w0.heap.size ≤ gs ∧ w0.heap.size ≤ gd ∧ w0.heap.size ≤ rs ∧ w0.heap.size ≤ rd) ∧ (gs ≠ rs ∧ gs ≠ rd ∧ gd ≠ rs ∧ gd ≠ rd)
section
variable {w0 w w' : World} {gs gd rs rd : Nat} {k k2 : Kp} {d r d' r' : Dk}
theorem TwoSt.ext_ (h : TwoSt w0 w gs gd rs rd k k2 d r) (hx : Ext w w') : TwoSt w0 w' gs gd rs rd k k2 d r := by
  obtain ⟨v, As, cs, Ae, ce, u, Bs', bs, Be, c4, p, q, ⟨p1, p2, p3⟩, ⟨q1, q2, q3⟩, hx0, hb, hn⟩ := h
  exact ⟨v, As, cs, Ae, ce, u, Bs', bs, Be, c4, p.ext hx, q.ext hx, ⟨p1.ext hx, p2.ext hx, p3⟩, ⟨q1.ext hx, q2.ext hx, q3⟩, hx0.trans' hx, hb, hn⟩
/-- the program's disk is turned -/
theorem TwoSt.pd (h : TwoSt w0 w gs gd rs rd k k2 d r) : ∃ v, DiskAt w gd v d ∧ ∀ w' d', DiskTo w w' gd v d' → TwoSt w0 w' gs gd rs rd k k2 d' r := by
  obtain ⟨v, As, cs, Ae, ce, u, Bs', bs, Be, c4, p, q, ⟨p1, p2, p3⟩, ⟨q1, q2, q3⟩, hx0, hb, hn⟩ := h
  refine ⟨v, p.disk, fun w' d' ht => ?_⟩
  obtain ⟨v', hp, hc⟩ := p.to ht
  obtain ⟨v2, hd2, hc2, hn2⟩ := ht
  obtain ⟨v', As', cs', Ae', ce', hp, hp1, hp2, hp3⟩ : ∃ v' As' cs' Ae' ce', StD w' gs gd k d' v' As' cs' Ae' ce' ∧ Enc.BsX w' (XS rs rd) (.slice As' k.snap.state.length cs') k.snap.state ∧ Enc.Sl enE w' (XS rs rd) (.slice Ae' k.ents.length ce') k.ents ∧ ∀ j, v'.ownBlock = some j → ¬ XS rs rd j := by
    have hsz := hc2.size
    have hgs := p.so.blk.lt
    have hrs := q.so.blk.lt
    have hrd := q.disk.blk.lt
    refine ⟨v2, As, cs, Ae, ce, ⟨hd2, p.so.chg hc2 p.ne, p.ne, fun j hj => ?_, p.wide, fun j hj => ?_⟩, ((bsx_or p.so.bs p1).chg hc2 (fun j hj _ => .inl (.inr (List.mem_singleton.1 hj)))).mono (fun j _ h => .inr h), ((sl_or p.so.es p2).chg hc2 (fun j hj _ => .inl (.inr (List.mem_singleton.1 hj)))).mono (fun j _ h => .inr h), fun j hj hX => ?_⟩
    · rcases hn2 j hj with h4 | h4
      · exact p.own j h4
      · omega
    · rcases hn2 j hj with h4 | h4
      · have := p.lt j h4; omega
      · exact h4.2
    · rcases hn2 j hj with h4 | h4
      · exact p3 j h4 hX
      · rcases hX with h5 | h5 <;> omega
  obtain ⟨hq, hq1, hq2⟩ := q.off_ hc2 (S := [gd]) (X := XS gs gd) (by simp; exact fun h => hn.2.2.1 h.symm) (by simp; exact fun h => hn.2.2.2 h.symm) (fun j hj _ => .inr (List.mem_singleton.1 hj)) q1 q2 (fun j hj hm => q3 j hj (.inr (List.mem_singleton.1 hm)))
  exact ⟨v', As', cs', Ae', ce', u, Bs', bs, Be, c4, hp, hq, ⟨hp1, hp2, hp3⟩, ⟨hq1, hq2, q3⟩, hx0.then_ hc2 (by simpa using hb.2.1), hb, hn⟩
/-- the document's disk is turned -/
theorem TwoSt.rd_ (h : TwoSt w0 w gs gd rs rd k k2 d r) : ∃ u, RefAt w rd u r ∧ ∀ w' r', RefTo w w' rd u r' → TwoSt w0 w' gs gd rs rd k k2 d r' := by
  obtain ⟨v, As, cs, Ae, ce, u, Bs', bs, Be, c4, p, q, ⟨p1, p2, p3⟩, ⟨q1, q2, q3⟩, hx0, hb, hn⟩ := h
  refine ⟨u, q.disk, fun w' r' ht => ?_⟩
  obtain ⟨u2, hd2, hc2, hn2⟩ := ht
  have hsz := hc2.size
  have hrs := q.so.blk.lt
  have hgs := p.so.blk.lt
  have hgd := p.disk.blk.lt
  obtain ⟨hp, hp1, hp2⟩ := p.off_ hc2 (S := [rd]) (X := XS rs rd) (by simp; exact hn.2.1) (by simp; exact hn.2.2.2) (fun j hj _ => .inr (List.mem_singleton.1 hj)) p1 p2 (fun j hj hm => p3 j hj (.inr (List.mem_singleton.1 hm)))
  refine ⟨v, As, cs, Ae, ce, u2, Bs', bs, Be, c4, hp, ⟨hd2, q.so.chg hc2 q.ne, q.ne, fun j hj => ?_, q.wide, fun j hj => ?_⟩, ⟨hp1, hp2, p3⟩, ⟨((bsx_or q.so.bs q1).chg hc2 (fun j hj _ => .inl (.inr (List.mem_singleton.1 hj)))).mono (fun j _ h => .inr h), ((sl_or q.so.es q2).chg hc2 (fun j hj _ => .inl (.inr (List.mem_singleton.1 hj)))).mono (fun j _ h => .inr h), fun j hj hX => ?_⟩, hx0.then_ hc2 (by simpa using hb.2.2.2), hb, hn⟩
  · rcases hn2 j hj with h4 | h4
    · exact q.own j h4
    · omega
  · rcases hn2 j hj with h4 | h4
    · have := q.lt j h4; omega
    · exact h4.2
  · rcases hn2 j hj with h4 | h4
    · exact q3 j h4 hX
    · rcases hX with h5 | h5 <;> omega
/-- the program's Save -/
theorem TwoSt.save_ (h : TwoSt w0 w gs gd rs rd k k2 d r) (x : Value) (l : List Rec) (n : Nat) (hks : k.small n) (hx : Enc.Sl reE w0 noneAt x l) (hl : ∀ r ∈ l, r.wide ∧ r.small) (hn0 : n + l.length ≤ 900) :
    Calls Try.prog 22 #[.pointer (some ⟨gs, 0, none⟩), x] w fun e w' => e = .returned (.int .i64 (save d k l).2.2) ∧ TwoSt w0 w' gs gd rs rd (save d k l).2.1 k2 (save d k l).1 r ∧ Chg [gs, gd] w w' := by
  obtain ⟨v, As, cs, Ae, ce, u, Bs', bs, Be, c4, p, q, ⟨p1, p2, p3⟩, ⟨q1, q2, q3⟩, hx0, hb, hn⟩ := h
  refine (saveX_b (XS rs rd) gs gd k d v As Ae cs ce x l n w p (fun j hj => by rcases hj with h | h; (rw [h]; exact q.so.blk.lt); rw [h]; exact q.disk.blk.lt) p1 p2 p3 hks ((hx.mono (Y := fun j => XS gs gd j ∨ XS rs rd j) (fun j hj h => by rcases h with (h | h) | (h | h) <;> omega)).ext hx0) hl hn0).mono ?_
  rintro e w' ⟨v', As', cs', Ae', ce', rfl, p', hc, p1', p2', p3'⟩
  obtain ⟨q', q1', q2'⟩ := q.off_ hc (X := XS gs gd) (by simp; exact ⟨fun h => hn.1 h.symm, fun h => hn.2.2.1 h.symm⟩) (by simp; exact ⟨fun h => hn.2.1 h.symm, fun h => hn.2.2.2 h.symm⟩) (fun j hj _ => by simpa [XS] using hj) q1 q2 (fun j hj hm => q3 j hj (by simpa [XS] using hm))
  exact ⟨rfl, ⟨v', As', cs', Ae', ce', u, Bs', bs, Be, c4, p', q', ⟨p1', p2', p3'⟩, ⟨q1', q2', q3⟩, hx0.then_ hc (fun j hj => by simp at hj; rcases hj with h | h <;> omega), hb, hn⟩, hc⟩
/-- the document's Save -/
theorem TwoSt.rsave_ (h : TwoSt w0 w gs gd rs rd k k2 d r) (x : Value) (l : List Rec) (n : Nat) (hks : k2.small n) (hx : Enc.Sl reE w0 noneAt x l) (hl : ∀ r ∈ l, r.wide ∧ r.small) (hn0 : n + l.length ≤ 900) :
    Calls Try.prog 23 #[.pointer (some ⟨rs, 0, none⟩), x] w fun e w' => e = .returned (.int .i64 (rsave r k2 l).2.2) ∧ TwoSt w0 w' gs gd rs rd k (rsave r k2 l).2.1 d (rsave r k2 l).1 ∧ Chg [rs, rd] w w' := by
  obtain ⟨v, As, cs, Ae, ce, u, Bs', bs, Be, c4, p, q, ⟨p1, p2, p3⟩, ⟨q1, q2, q3⟩, hx0, hb, hn⟩ := h
  refine (rsave_b (XS gs gd) rs rd k2 r u Bs' Be bs c4 x l n w q (fun j hj => by rcases hj with h | h; (rw [h]; exact p.so.blk.lt); rw [h]; exact p.disk.blk.lt) q1 q2 q3 hks ((hx.mono (Y := fun j => XS rs rd j ∨ XS gs gd j) (fun j hj h => by rcases h with (h | h) | (h | h) <;> omega)).ext hx0) hl hn0).mono ?_
  rintro e w' ⟨v', As', cs', Ae', ce', rfl, q', hc, q1', q2', q3'⟩
  obtain ⟨p', p1', p2'⟩ := p.off_ hc (X := XS rs rd) (by simp; exact ⟨hn.1, hn.2.1⟩) (by simp; exact ⟨hn.2.2.1, hn.2.2.2⟩) (fun j hj _ => by simpa [XS] using hj) p1 p2 (fun j hj hm => p3 j hj (by simpa [XS] using hm))
  exact ⟨rfl, ⟨v, As, cs, Ae, ce, v', As', cs', Ae', ce', p', q', ⟨p1', p2', p3⟩, ⟨q1', q2', q3'⟩, hx0.then_ hc (fun j hj => by simp at hj; rcases hj with h | h <;> omega), hb, hn⟩, hc⟩
end
end Go.Proofs.Ytlblgopfdadalaa
