/- A part of the proof of 'StoreAll'. -/
import Derived.Test.YtlblgopfdadalaaS22
namespace Go.Proofs.Ytlblgopfdadalaa
set_option linter.unusedVariables false
set_option linter.unusedSimpArgs false
set_option linter.unnecessarySimpa false
set_option maxRecDepth 100000
open Go.RowKit
theorem scan_lput {l : List Rec} (h : ∀ r ∈ l, r.wide ∧ r.small) : scan (lput l) = (right l, (lput l).length) := by
  have := scan_put l [] h
  rw [List.append_nil, scan_nil] at this
  simpa using this
/-- a disk that lives, and whose bytes all last -/
structure Dk.live (d : Dk) (bs : Bytes) : Prop where
  b : d.b = bs
  sy : d.sy = bs.length
  de : d.de = false
  ar : d.ar = false
theorem Dk.live.op {d : Dk} {b : Bytes} (h : d.live b) (size : Int) (hs : size ≤ 200000) (whole half : Dk → Dk) : d.op size whole half = (whole d, 0) := by
  unfold Dk.op
  rw [if_neg (by simp [h.de]), if_neg (by omega), if_neg (by simp [h.ar])]
  rw [if_neg (by simp [h.ar])]
theorem live_new : Dk.new.live [] := ⟨rfl, rfl, rfl, rfl⟩
theorem Dk.live.crash {d : Dk} {b : Bytes} (h : d.live b) (p : Int) : (d.crash p).power.live b := by
  have hb : (d.cut p).b = b := by
    unfold Dk.cut Dk.left
    simp only
    rw [h.b, h.sy]
    have : ((b.length : Int) + max 0 (min p (b.length - b.length))).toNat = b.length := by omega
    rw [this, List.take_length]
  exact ⟨hb, by show ((d.cut p).b.length : Int) = _; rw [hb], rfl, rfl⟩
theorem Dk.live.open_ {d : Dk} {l : List Rec} (h : d.live (lput l)) (hl : ∀ r ∈ l, r.wide ∧ r.small) : openD d = (d, 0) ∧ scan d.b = (right l, (lput l).length) := by
  have hs : scan d.b = (right l, (lput l).length) := by rw [h.b, scan_lput hl]
  refine ⟨?_, hs⟩
  unfold openD
  rw [if_neg (by rw [hs, h.b]; simp)]
theorem save_live {d : Dk} {k : Kp} {b : Bytes} {l : List Rec} (h : d.live b) (hne : l ≠ []) (hns : l.any isSnap = false) (hb : (b.length : Int) + (lput l).length ≤ 200000) :
    (save d k l).2 = (kfold k l, 0) ∧ (save d k l).1.live (b ++ lput l) := by
  have e1 := h.op (d.b.length + (lput l).length) (by rw [h.b]; exact hb) (Dk.app (lput l)) (Dk.app (lput l))
  have hd2 : saveD d l (kfold k l) = ((d.app (lput l)).last, 0) := by
    unfold saveD
    rw [if_neg (by simp [hns]), e1]
    simp only [if_true]
    unfold Dk.op
    have hde : (d.app (lput l)).de = false := h.de
    have har : (d.app (lput l)).ar = false := h.ar
    rw [if_neg (by simp [hde]), if_neg (by omega), if_neg (by simp [har]), if_neg (by simp [har])]
  unfold save
  rw [if_neg hne, hd2]
  refine ⟨by simp, ⟨by show d.b ++ lput l = _; rw [h.b], by show ((d.b ++ lput l).length : Int) = _; rw [h.b], h.de, h.ar⟩⟩
theorem save_snap {d : Dk} {k : Kp} {b : Bytes} {l : List Rec} (h : d.live b) (hs : l.any isSnap = true) (hb : ((lput (krecs (kfold k l))).length : Int) ≤ 200000) :
    (save d k l).2 = (kfold k l, 0) ∧ (save d k l).1.live (lput (krecs (kfold k l))) := by
  have e1 := h.op (lput (krecs (kfold k l))).length hb (Dk.repl (lput (krecs (kfold k l)))) id
  have hd2 : saveD d l (kfold k l) = (d.repl (lput (krecs (kfold k l))), 0) := by
    unfold saveD
    rw [if_pos hs, e1]
  unfold save
  rw [if_neg (by rintro rfl; simp at hs), hd2]
  exact ⟨by simp, ⟨rfl, rfl, h.de, h.ar⟩⟩
def rA : Rec := ⟨1, ⟨3, 1⟩, En0, 0, Sn0⟩
def rB : Rec := ⟨2, Hd0, ⟨3, []⟩, 0, Sn0⟩
def rC : Rec := ⟨3, Hd0, En0, 1, Sn0⟩
def kAB : Kp := ⟨⟨3, 1⟩, Sn0, [⟨3, []⟩]⟩
theorem rAB_ok : ∀ r ∈ [rA, rB], r.wide ∧ r.small := by
  intro r hr
  simp only [List.mem_cons, List.not_mem_nil, or_false] at hr
  rcases hr with rfl | rfl
  · exact ⟨by constructor <;> simp [rA, En0, Sn0], by constructor <;> simp [rA, En0, Sn0]⟩
  · exact ⟨by constructor <;> simp [rB, Hd0, Sn0], by constructor <;> simp [rB, Sn0]⟩
theorem rC_ok : ∀ r ∈ [rC], r.wide ∧ r.small := by
  intro r hr
  rw [List.mem_singleton.1 hr]
  exact ⟨by constructor <;> simp [rC, Hd0, En0, Sn0], by constructor <;> simp [rC, En0, Sn0]⟩
theorem rAB_right : right [rA, rB] = [rA, rB] := by rfl
theorem rAB_fold : kfold Kp0 [rA, rB] = kAB := by rfl
theorem kAB_small : kAB.small 1 := ⟨by simp [kAB], by simp [kAB], by simp [kAB, Sn0]⟩
theorem lenAB : (lput [rA, rB]).length ≤ 170 := lput_len (l := [rA, rB]) fun r hr => (rAB_ok r hr).2
end Go.Proofs.Ytlblgopfdadalaa
namespace Go.Proofs.Ytlblgopfdadalaa
set_option linter.unusedVariables false
set_option linter.unusedSimpArgs false
set_option linter.unnecessarySimpa false
set_option maxRecDepth 100000
open Go.RowKit
theorem Sl.blkS {α : Type} {E : Enc α} {w : World} {X : Avoid} {g : Nat} {T : TypeId} {cs : Array Value} {css : List (List Value)} {l : List α} (h : Blk w g T cs) (hX : ¬ X g) (hc : cs.toList = css.flatten) (he : Enc.Each E w X css l) (hm : l.length ≤ maxLen) (n : Nat) (hn : n = l.length) : Enc.Sl E w X (.slice (some ⟨g, 0, none⟩) n n) l := by
  subst hn
  refine ⟨_, _, css, rfl, Nat.le_refl _, hm, ⟨he.len, fun _ => ⟨_, rfl, h.lt, fun j u hu => ?_⟩⟩, fun ad ha _ hx => ?_, he⟩
  · have hadd : (⟨g, 0, none⟩ : Addr).add j = ⟨g, j, none⟩ := by unfold Addr.add; split <;> simp_all
    rw [hadd, h.cell, ← Array.getElem?_toList, hc]
    exact hu
  · obtain rfl := Option.some.inj ha
    exact hX hx
theorem each_mapS {α : Type} {E : Enc α} {w : World} {X : Avoid} (f : α → List Value) : ∀ l : List α, (∀ a ∈ l, E.rep w X (f a) a) → Enc.Each E w X (l.map f) l
  | [], _ => Enc.Each.nil E w X
  | a :: l, h => Enc.Each.app (Enc.Each.single (h a List.mem_cons_self)) (each_mapS f l fun b hb => h b (List.mem_cons_of_mem _ hb))
theorem recs_sl {w : World} {X : Avoid} {g : Nat} {cs : Array Value} {l : List Rec} (h : Blk w g 101 cs) (hX : ¬ X g) (hc : cs.toList = (l.map fun r => recells r (.slice none 0 0) (.slice none 0 0)).flatten) (hl : ∀ r ∈ l, r.wide ∧ r.ent.data = [] ∧ r.snap.state = []) (hm : l.length ≤ 1000) (n : Nat) (hn : n = l.length) : Enc.Sl reE w X (.slice (some ⟨g, 0, none⟩) n n) l :=
  Sl.blkS h hX hc (each_mapS _ _ fun r hr => re_rep.2 ⟨_, _, rfl, (hl r hr).1, by rw [(hl r hr).2.1]; exact Enc.BsX.nil _ _, by rw [(hl r hr).2.2]; exact Enc.BsX.nil _ _⟩) (by simp only [maxLen]; omega) n hn
set_option maxHeartbeats 12800000 in
theorem begun23_b (w : World) : Calls Try.prog 15 #[] w fun e w' => e = .returned (.bool true) ∧ Ext w w' := by
  have HO1 := hide (fun (W : World) (g : Nat) hD => open_b g (.slice none 0 0) Dk.new 0 W hD rfl (fun j h => by cases h) (by rw [show Dk.new.b = [] from rfl, scan_nil]; simp) (by rw [show Dk.new.b = [] from rfl, scan_nil]; simp) (by omega) (by simp [Dk.new]))
  rw [show openD Dk.new = (Dk.new, 0) by unfold openD; rw [show Dk.new.b = [] from rfl, scan_nil]; rfl, show kfold Kp0 (scan Dk.new.b).1 = Kp0 by rw [show Dk.new.b = [] from rfl, scan_nil]; rfl] at HO1
  obtain ⟨k1, hk1⟩ : ∃ k, Kp0 = k := ⟨_, rfl⟩
  rw [hk1] at HO1
  have hs1 : k1.small 0 := by rw [← hk1]; exact Kp0.small_
  obtain ⟨hsv, hlv⟩ := save_live (k := k1) (l := [rA, rB]) live_new (by simp) (by rfl) (by have := lenAB; simp; omega)
  rw [← hk1, rAB_fold, hk1] at hsv
  obtain ⟨⟨d1, kx, ex⟩, hq1⟩ : ∃ q, save Dk.new k1 [rA, rB] = q := ⟨_, rfl⟩
  rw [hq1] at hsv hlv
  simp only at hsv hlv
  obtain ⟨rfl, rfl⟩ := Prod.mk.inj hsv
  have HQ1 := hide hq1
  clear hq1 hsv
  rw [List.nil_append] at hlv
  have hl3 := hlv.crash 0
  obtain ⟨ho3, hsc3⟩ := hl3.open_ rAB_ok
  rw [rAB_right] at hsc3
  obtain ⟨kq, hkq⟩ : ∃ k, kAB = k := ⟨_, rfl⟩
  have e1 : (kq.hard.term == 3) = true := by rw [← hkq]; rfl
  have e2 : ((kq.ents.length : Int) == 1) = true := by rw [← hkq]; rfl
  have e3 : (kq.hard.vote == 1) = true := by rw [← hkq]; rfl
  have hqs : kq.small 1 := by rw [← hkq]; exact kAB_small
  have HO2 := hide (fun (W : World) (g : Nat) v hD hv => open_b g v (d1.crash 0).power 2 W hD rfl hv (by rw [hsc3]; exact fun r hr => (rAB_ok r hr).2) (by rw [hsc3]; simp) (by omega) (by rw [hl3.b]; have := lenAB; omega))
  rw [ho3, show kfold Kp0 (scan (d1.crash 0).power.b).1 = kq by rw [hsc3, ← hkq]; rfl] at HO2
  obtain ⟨k5, hk5⟩ : ∃ k, kfold kq [rC] = k := ⟨_, rfl⟩
  have e5 : ((k5.ents.length : Int) == 0) = true := by rw [← hk5, ← hkq]; rfl
  have hkr : (krecs kq).length = 2 := by rw [← hkq]; rfl
  have HK5 := hide hk5
  have HKQ := hide hkq
  have HK1 := hide hk1
  clear hk1 hkq hk5
  have hf1 : ∀ (a b c d : Int) (u v : Option Addr) (n m i j : Nat) (W : World), (Instr.field 53 (.agg #[.int .u64 a, .int .i64 b, .int .u64 c, .int .u64 d, .slice u n i, .slice v m j]) 2).run Try.prog W = .ok (.slice v m j) W := fun _ _ _ _ _ _ _ _ _ _ _ => by kernel_rfl
  have hf2 : ∀ (a b c d : Int) (u v : Option Addr) (n m i j : Nat) (W : World), (Instr.field 53 (.agg #[.int .u64 a, .int .i64 b, .int .u64 c, .int .u64 d, .slice u n i, .slice v m j]) 0).run Try.prog W = .ok (.agg #[.int .u64 a, .int .i64 b]) W := fun _ _ _ _ _ _ _ _ _ _ _ => by kernel_rfl
  have hf3 : ∀ (a b : Int) (W : World), (Instr.field 51 (.agg #[.int .u64 a, .int .i64 b]) 1).run Try.prog W = .ok (.int .i64 b) W := fun _ _ _ => by kernel_rfl
  go_enter Try.func15, Try.ntmps15
  go_wp2_with fail
  refine (disk_new w).mono ?_
  rintro e w1 ⟨rfl, hw1⟩
  have hD := new_at w
  rw [← hw1] at hD
  have hxw : Ext w w1 := by rw [hw1]; exact (Ext.rfl' _).alloc' _
  obtain ⟨gd, hgd⟩ : ∃ g, w.heap.size = g := ⟨_, rfl⟩
  rw [hgd] at hD ⊢
  have hgdw : w.heap.size ≤ gd := by omega
  clear hw1 hgd
  go_wp2_with fail
  refine (HO1.out w1 gd hD).mono ?_
  rintro e w2 (⟨-, gs, v2, As, cs, Ae, ce, Am, cm, Bm, dm, rfl, hS, hgs, hb2, he2, hc2⟩ | ⟨h, -⟩)
  case inr => exact absurd rfl h
  have hgsw : w.heap.size ≤ gs := by have := hxw.size; omega
  have hx2 : Ext w w2 := hxw.then_ hc2 (by simpa using hgdw)
  clear hD hc2
  obtain ⟨g3, hg3⟩ : ∃ g, w2.heap.size = g := ⟨_, rfl⟩
  have hz : Ext w2 (w2.alloc (.cells #[.int .u64 k1.hard.term, .int .i64 k1.hard.vote, .int .u64 k1.snap.index, .int .u64 k1.snap.term, .slice Am k1.snap.state.length cm, .slice Bm k1.ents.length dm] 53)) := (Ext.rfl' _).alloc' _
  go_upto_region 3 with fail
  try rw [hg3]
  generalize (w2.alloc (.cells #[.int .u64 k1.hard.term, .int .i64 k1.hard.vote, .int .u64 k1.snap.index, .int .u64 k1.snap.term, .slice Am k1.snap.state.length cm, .slice Bm k1.ents.length dm] 53)) = w3 at *
  replace hS := hS.ext hz
  replace hx2 := hx2.trans' hz
  clear hz hg3
  obtain ⟨gl, hgl⟩ : ∃ g, w3.heap.size = g := ⟨_, rfl⟩
  have hB := Blk.new w3 101 #[.int .i64 1, .int .u64 3, .int .i64 1, .int .u64 0, .slice none 0 0, .int .u64 0, .int .u64 0, .int .u64 0, .slice none 0 0, .int .i64 2, .int .u64 0, .int .i64 0, .int .u64 3, .slice none 0 0, .int .u64 0, .int .u64 0, .int .u64 0, .slice none 0 0]
  rw [hgl] at hB
  have hz : Ext w3 (w3.alloc (.cells #[.int .i64 1, .int .u64 3, .int .i64 1, .int .u64 0, .slice none 0 0, .int .u64 0, .int .u64 0, .int .u64 0, .slice none 0 0, .int .i64 2, .int .u64 0, .int .i64 0, .int .u64 3, .slice none 0 0, .int .u64 0, .int .u64 0, .int .u64 0, .slice none 0 0] 101)) := (Ext.rfl' _).alloc' _
  have hlit : Enc.Sl reE _ (XS gs gd) (.slice (some ⟨gl, 0, none⟩) 2 2) [rA, rB] := recs_sl (l := [rA, rB]) hB (fun h => by
    have h1 := hS.so.blk.lt; have h2 := hS.disk.blk.lt
    rcases h with h | h <;> omega) rfl (fun r hr => ⟨(rAB_ok r hr).1, by
      simp only [List.mem_cons, List.not_mem_nil, or_false] at hr
      rcases hr with rfl | rfl <;> exact ⟨rfl, rfl⟩⟩) (by simp) 2 rfl
  replace hS := hS.ext hz
  replace hx2 := hx2.trans' hz
  go_wp2_with fail
  refine (save_b gs gd k1 Dk.new v2 As Ae cs ce (.slice (some ⟨gl, 0, none⟩) 2 2) [rA, rB] 0 _ hS hs1 hlit rAB_ok (by simp)).mono ?_
  rintro e w4 ⟨v4, As4, cs4, Ae4, ce4, rfl, hS4, hc4⟩
  rw [HQ1.out] at hS4
  rw [show (save Dk.new k1 [rA, rB]).2.2 = 0 by rw [HQ1.out]]
  simp only at hS4
  have hx4 : Ext w w4 := hx2.then_ hc4 (fun j hj => by simp at hj; rcases hj with h | h <;> omega)
  clear hS hlit hB hz hgl hc4 hx2
  go_wp2_with fail
  refine (disk_crash gd v4 d1 0 w4 hS4.disk (by omega)).mono ?_
  rintro e w5 ⟨rfl, hd5⟩
  obtain ⟨v5, hS5, hc5⟩ := hS4.to hd5
  have hx5 := hx4.then_ hc5 (by simpa using hgdw)
  clear hS4 hc5 hd5 hx4
  go_wp2_with fail
  refine (disk_power gd v5 (d1.crash 0) w5 hS5.disk).mono ?_
  rintro e w6 ⟨rfl, hd6⟩
  obtain ⟨v6, hS6, hc6⟩ := hS5.to hd6
  have hx6 := hx5.then_ hc6 (by simpa using hgdw)
  clear hS5 hc6 hd6 hx5
  go_wp2_with fail
  refine (HO2.out w6 gd v6 hS6.disk hS6.lt).mono ?_
  rintro e w7 (⟨-, gt, v7, As7, cs7, Ae7, ce7, Ao, co, Bo, dq, rfl, hS7, hgt, hb7, he7, hc7⟩ | ⟨h, -⟩)
  case inr => exact absurd rfl h
  have hx7 := hx6.then_ hc7 (by simpa using hgdw)
  clear hS6 hc7 hx6
  obtain ⟨g7, hg7⟩ : ∃ g, w7.heap.size = g := ⟨_, rfl⟩
  have hQ := Blk.new w7 53 #[.int .u64 kq.hard.term, .int .i64 kq.hard.vote, .int .u64 kq.snap.index, .int .u64 kq.snap.term, .slice Ao kq.snap.state.length co, .slice Bo kq.ents.length dq]
  rw [hg7] at hQ
  have hz : Ext w7 (w7.alloc (.cells #[.int .u64 kq.hard.term, .int .i64 kq.hard.vote, .int .u64 kq.snap.index, .int .u64 kq.snap.term, .slice Ao kq.snap.state.length co, .slice Bo kq.ents.length dq] 53)) := (Ext.rfl' _).alloc' _
  go_upto_region 9 with fail
  try rw [hg7]
  generalize (w7.alloc (.cells #[.int .u64 kq.hard.term, .int .i64 kq.hard.vote, .int .u64 kq.snap.index, .int .u64 kq.snap.term, .slice Ao kq.snap.state.length co, .slice Bo kq.ents.length dq] 53)) = w8 at *
  replace hS7 := hS7.ext hz
  replace hb7 := hb7.ext hz
  replace he7 := he7.ext hz
  replace hx7 := hx7.trans' hz
  clear hz hg7
  have q0 := (hQ.cell 0).trans rfl
  have q1 := (hQ.cell 1).trans rfl
  have q2 := (hQ.cell 2).trans rfl
  have q3 := (hQ.cell 3).trans rfl
  have q4 := (hQ.cell 4).trans rfl
  have q5 := (hQ.cell 5).trans rfl
  go_wp2_with fail
  refine (records_b noneAt kq (.slice Ao kq.snap.state.length co) (.slice Bo kq.ents.length dq) 1 w8 (fun _ h => h.elim) hS7.wide hqs (.of hb7) he7 (by omega)).mono ?_
  rintro e w9 ⟨m, A9, c9, hm9, rfl, -, hx9⟩
  have e6 : ((m.length : Int) == 2) = true := by rw [hm9.out, hkr]; rfl
  clear q0 q1 q2 q3 q4 q5
  replace hQ := hQ.ext hx9
  replace hS7 := hS7.ext hx9
  replace hb7 := hb7.ext hx9
  replace he7 := he7.ext hx9
  replace hx7 := hx7.trans' hx9
  have q0 := (hQ.cell 0).trans rfl
  have q1 := (hQ.cell 1).trans rfl
  have q2 := (hQ.cell 2).trans rfl
  have q3 := (hQ.cell 3).trans rfl
  have q4 := (hQ.cell 4).trans rfl
  have q5 := (hQ.cell 5).trans rfl
  obtain ⟨gl, hgl⟩ : ∃ g, w9.heap.size = g := ⟨_, rfl⟩
  have hB := Blk.new w9 101 #[.int .i64 3, .int .u64 0, .int .i64 0, .int .u64 0, .slice none 0 0, .int .u64 1, .int .u64 0, .int .u64 0, .slice none 0 0]
  rw [hgl] at hB
  have hz : Ext w9 (w9.alloc (.cells #[.int .i64 3, .int .u64 0, .int .i64 0, .int .u64 0, .slice none 0 0, .int .u64 1, .int .u64 0, .int .u64 0, .slice none 0 0] 101)) := (Ext.rfl' _).alloc' _
  have hlit : Enc.Sl reE _ noneAt (.slice (some ⟨gl, 0, none⟩) 1 1) [rC] := recs_sl (l := [rC]) hB (fun h => h) rfl (fun r hr => ⟨(rC_ok r hr).1, by
      rw [List.mem_singleton.1 hr]; exact ⟨rfl, rfl⟩⟩) (by simp) 1 rfl
  go_wp2_with fail
  refine (fold_b noneAt kq (.slice Ao kq.snap.state.length co) (.slice Bo kq.ents.length dq) (.slice (some ⟨gl, 0, none⟩) 1 1) [rC] 1 _ (fun _ h => h.elim) hS7.wide hqs (.of (hb7.ext hz)) (he7.ext hz) hlit rC_ok (by simp)).mono ?_
  rw [HK5.out]
  rintro e w10 ⟨A10, c10, B10, d10, rfl, -, -, hx10⟩
  have hS8 := (hS7.ext hz).ext hx10
  have hx8 := (hx7.trans' hz).trans' hx10
  clear q0 q1 q2 q3 q4 q5
  go_wp2_with fail
  refine (kept_b gt gd kq As7 Ae7 cs7 ce7 1 w10 hS8.so hS8.wide hqs (by omega) hS8.disk.blk.lt).mono ?_
  rintro e w11 ⟨A11, c11, B11, d11, rfl, -, -, hx11⟩
  go_wp2
  go_ret
  exact ⟨rfl, hx8.trans' hx11⟩
end Go.Proofs.Ytlblgopfdadalaa
