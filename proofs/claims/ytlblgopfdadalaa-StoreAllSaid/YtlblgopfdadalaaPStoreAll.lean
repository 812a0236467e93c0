/- A part of the proof of 'StoreAll'. -/
import Derived.Test.YtlblgopfdadalaaS23
import Derived.Test.YtlblgopfdadalaaS38
import Derived.Test.YtlblgopfdadalaaS9
import Derived.Test.YtlblgopfdadalaaS11
import Derived.Deep.DeepCutAuto
import Derived.Test.YtlblgopfdadalaaS4
namespace Go.Proofs.Ytlblgopfdadalaa
set_option linter.unusedVariables false
set_option linter.unusedSimpArgs false
set_option linter.unnecessarySimpa false
set_option maxRecDepth 100000
open Go.RowKit
set_option maxHeartbeats 25600000 in
theorem storeAll_walk (xl : Value) (l : List SOp) (w : World) (hl : Enc.Sl sopE w noneAt xl l) :
    Calls Try.prog 4 #[xl] w fun e w' => e = .returned (.bool true) ∧ Ext w w' := by
  have hsc : scan Dk.new.b = ([], 0) := by rw [show Dk.new.b = [] from rfl, scan_nil]
  have hod : openD Dk.new = (Dk.new, 0) := by unfold openD; rw [hsc]; rfl
  have hrod : ropenD Dk.new = (Dk.new, 0) := by unfold ropenD; rw [hsc]; rfl
  have hk0 : kfold Kp0 (scan Dk.new.b).1 = Kp0 := by rw [hsc]; rfl
  obtain ⟨k1, hk1⟩ : ∃ k, Kp0 = k := ⟨_, rfl⟩
  have HO1 := hide (fun (X : Avoid) (W : World) (g : Nat) hD hX hg => open3_b X g (.slice none 0 0) Dk.new 0 W hD hX hg rfl (fun j h => by cases h) (by rw [hsc]; simp) (by rw [hsc]; simp) (by omega) (by simp [Dk.new]))
  have HO2 := hide (fun (X : Avoid) (W : World) (g : Nat) hD hX => ropen_b X g (.slice none 0 0) Dk.new 0 W hD hX rfl (fun j h => by cases h) (by rw [hsc]; simp) (by rw [hsc]; simp) (by omega) (by simp [Dk.new]))
  rw [hod, hk0, hk1] at HO1
  rw [hrod, hk0, hk1] at HO2
  have HK1 := hide hk1
  clear hk1 hsc hod hrod hk0
  obtain ⟨Ax, cx, rfl, -, -⟩ := hl.form
  go_enter Try.func4, Try.ntmps4
  go_wp2_with fail
  refine (begun23_b w).mono ?_
  rintro e w2 ⟨rfl, hx⟩
  by_cases hlen : (l.length : Int) ≤ 12
  case neg =>
    have hlen' : (12 : Int) < l.length := by omega
    go_wp2
    go_ret
    exact ⟨rfl, hx⟩
  have hlen' : ¬ (12 : Int) < l.length := by omega
  go_wp2_with fail
  refine (disk_new w2).mono ?_
  rintro e w3 ⟨rfl, hw3⟩
  have hD := new_at w2
  rw [← hw3] at hD
  have hx3 : Ext w w3 := by rw [hw3]; exact hx.trans' ((Ext.rfl' _).alloc' _)
  obtain ⟨gd, hgd⟩ : ∃ g, w2.heap.size = g := ⟨_, rfl⟩
  rw [hgd] at hD ⊢
  have hgdw : w.heap.size ≤ gd := by have := hx.size; omega
  clear hw3 hgd hx
  have hgd3 := hD.blk.lt
  have hrz := Blk.new w3 48 (rcells (.slice none 0 0) Dk.new)
  have hz : Ext w3 (w3.alloc (.cells (rcells (.slice none 0 0) Dk.new) 48)) := (Ext.rfl' _).alloc' _
  obtain ⟨rd, hrd⟩ : ∃ g, w3.heap.size = g := ⟨_, rfl⟩
  rw [hrd] at hrz
  have hrdw : w.heap.size ≤ rd := by omega
  have hgr : gd < rd := by omega
  go_upto_region 6 with fail
  change Code.wp _ _ _ _ (w3.alloc (.cells (rcells (.slice none 0 0) Dk.new) 48))
  try rw [hrd]
  replace hD := hD.ext hz
  replace hx3 := hx3.trans' hz
  clear hrd hz
  generalize (w3.alloc (.cells (rcells (.slice none 0 0) Dk.new) 48)) = w4 at *
  have hRd : RefAt w4 rd (.slice none 0 0) Dk.new := ⟨hrz, Bs.nil _, Off.of_own (fun k hk => by cases hk), Dk.new_ok⟩
  clear hrz
  have hrd4 := hRd.blk.lt
  go_wp2_with fail
  refine (HO1.out (fun j => j = rd) w4 gd hD hRd.odd (by omega)).mono ?_
  rintro e w5 (⟨-, gs, v5, As, cs, Ae, ce, Am, cm, Bm, dm, rfl, hS, hgs, -, -, ha1, ha2, hc5, hv5⟩ | ⟨h, -⟩)
  case inr => exact absurd rfl h
  replace hRd := hRd.chg hc5 (by simp; omega) (Off.of_own (fun k hk => by cases hk))
  replace hx3 := hx3.then_ hc5 (by simpa using hgdw)
  have hgsr : rd < gs := by omega
  obtain ⟨g6, hg6⟩ : ∃ g, w5.heap.size = g := ⟨_, rfl⟩
  have hz : Ext w5 (w5.alloc (.cells #[.int .u64 k1.hard.term, .int .i64 k1.hard.vote, .int .u64 k1.snap.index, .int .u64 k1.snap.term, .slice Am k1.snap.state.length cm, .slice Bm k1.ents.length dm] 53)) := (Ext.rfl' _).alloc' _
  go_upto_region 7 with fail
  try rw [hg6]
  generalize (w5.alloc (.cells #[.int .u64 k1.hard.term, .int .i64 k1.hard.vote, .int .u64 k1.snap.index, .int .u64 k1.snap.term, .slice Am k1.snap.state.length cm, .slice Bm k1.ents.length dm] 53)) = w6 at *
  replace hS := hS.ext hz
  replace hRd := hRd.ext hz
  replace ha1 := ha1.ext hz
  replace ha2 := ha2.ext hz
  replace hx3 := hx3.trans' hz
  clear hz hg6 hc5 hD HO1
  have hgs6 := hS.so.blk.lt
  have hgd6 := hS.disk.blk.lt
  have hrd6 := hRd.blk.lt
  go_wp2_with fail
  refine (HO2.out (XS gs gd) w6 rd hRd (Odd.or hS.so.odd hS.disk.odd)).mono ?_
  rintro e w7 (⟨-, rs, u7, Bq, bq, Cq, cq, rfl, hq, hrs, hb1, hb2, hc7, hu7⟩ | ⟨h, -⟩)
  case inr => exact absurd rfl h
  obtain ⟨hp, hp1, hp2⟩ := hS.off_ hc7 (S := [rd]) (X := XS rs rd) (by simp; omega) (by simp; omega) (fun j hj _ => .inr (List.mem_singleton.1 hj)) (ha1.mono fun j hj h => h.elim (fun h => by omega) id) (ha2.mono fun j hj h => h.elim (fun h => by omega) id) (fun j hj hm => by have h1 := List.mem_singleton.1 hm; rcases hv5 j hj with h | h; cases h; (have := hS.lt j hj; omega))
  have hT : TwoSt w w7 gs gd rs rd k1 k1 Dk.new Dk.new := ⟨v5, As, cs, Ae, ce, u7, Bq, bq, Cq, cq, hp, hq, ⟨hp1, hp2, fun j hj hX => by
      rcases hv5 j hj with h | h
      · cases h
      · have := hS.lt j hj
        rcases hX with h5 | h5 <;> omega⟩, ⟨hb1, hb2, fun j hj hX => by
      rcases hu7 j hj with h | h
      · cases h
      · rcases hX with h5 | h5 <;> omega⟩, hx3.then_ hc7 (by simpa using hrdw), ⟨by omega, by omega, by omega, by omega⟩, by omega, by omega, by omega, by omega⟩
  have HA : Hid (Dk.new.aw k1 0) := hide (by rw [← HK1.out]; exact whole_new.aw)
  have HE : Hid (Eqv Dk.new Dk.new) := hide ⟨rfl, rfl, rfl, rfl, rfl, fun _ => rfl⟩
  obtain ⟨d0, hd0⟩ : ∃ d, Dk.new = d := ⟨_, rfl⟩
  rw [hd0] at hT HA HE
  clear hp hq hp1 hp2 hb1 hb2 hc7 hS hRd ha1 ha2 hv5 hu7 hd0 HO2 HK1
  go_wp2_with fail
  go_loopw [5, 8, 10] (fun v5 v8 i wr => ∃ (m : Nat) (k : Kp) (d r : Dk) (gs rs : Nat), (m : Int) ≤ l.length ∧ v5 = .pointer (some ⟨gs, 0, none⟩) ∧ v8 = .pointer (some ⟨rs, 0, none⟩) ∧ i = .int .i64 m ∧ TwoSt w wr gs gd rs rd k k d r ∧ Hid (Eqv d r) ∧ Hid (d.aw k (44 * m))) (fun _ _ i _ => (l.length - intOf i).toNat)
  case atStart => exact ⟨0, k1, d0, d0, gs, rs, by omega, rfl, rfl, rfl, hT, HE, HA⟩
  case round =>
    clear hT HE HA hx3
    obtain ⟨m, k, d, r, gs, rs, hm, rfl, rfl, rfl, hT, HE, HA⟩ := hrel
    have hm12 : m ≤ 12 := by omega
    by_cases hlt : (m : Int) < l.length
    · obtain ⟨ad, o, xv, rfl, hok_, hbk, p0, p1, p2, p3, p4, hxv, hn1, hn2⟩ := sop_at hl (k := m) (by omega)
      obtain ⟨B, cB, rfl, -, -⟩ := hxv.form
      obtain ⟨lm, oc, oa, on, op⟩ := o
      simp only at p0 p1 p2 p3 p4 hxv hn1 hn2
      clear hok_
      have hab : (ad.add (m * 5)).block < w.heap.size := by rw [block_of_add]; exact hbk
      have HLT := hide hlt
      have hm0 : (0 : Int) ≤ m := by omega
      have hml : (m : Int) < l.length := hlt
      clear hlt
      have hx0 := hT.ext0
      have q0 := (hx0.cell (p := ad.add (m * 5)) hab).trans p0
      go_wp2_with fail
      refine (plain_b (.slice B lm.length cB) lm wr (hxv.ext hx0)).mono ?_
      rintro e w1 ⟨b, rfl, hx_, hp_⟩
      cases b with
      | false =>
        go_wp2
        go_ret
        exact ⟨rfl, hx0.trans' hx_⟩
      | true =>
      have hp := hp_ rfl
      clear hp_ q0
      replace hT := hT.ext_ hx_
      replace hx0 := hx0.trans' hx_
      clear hx_
      have hwl : ∀ r ∈ lm, r.wide := Sl.wides hxv
      have hll : ∀ r ∈ lm, (r.wide ∧ r.small) ∧ may r = true := fun r hr => ⟨⟨hwl r hr, hp.small r hr⟩, hp.may r hr⟩
      have hnl := hp.len
      clear hp hwl
      have q2 := (hx0.cell (p := ⟨(ad.add (m * 5)).block, (ad.add (m * 5)).off + 2, none⟩) hab).trans p2
      go_upto_if 62 with fail
      go_cut [] (fun wx => ∃ d' r', TwoSt w wx gs gd rs rd k k d' r' ∧ Hid (Eqv d' r') ∧ Hid (d'.aw k (44 * m)))
      case first =>
        cases oa with
        | false =>
          go_wp2_with fail
          go_meet
          case rel => exact ⟨d, r, hT, HE, HA⟩
        | true =>
          go_upto_region 16 with fail
          refine Rg.regionT Try.checked.mixed 211 11 (by kernel_rfl) [
            (fun x_ _ => x_ = .pointer (some ⟨gd, 0, none⟩)),
            (fun x_ _ => x_ = .slice (some ad) l.length cx),
            (fun x_ _ => x_ = .int .i64 m),
            (fun x_ _ => x_ = .pointer (some (ad.add (m * 5)))),
            (fun x_ _ => x_ = .pointer (some ⟨(ad.add (m * 5)).block, (ad.add (m * 5)).off + 3, none⟩)),
            (fun x_ _ => x_ = .int .i64 on),
            (fun x_ _ => x_ = .slice (some ad) l.length cx),
            (fun x_ _ => x_ = .int .i64 m),
            (fun x_ _ => x_ = .pointer (some (ad.add (m * 5)))),
            (fun x_ _ => x_ = .pointer (some ⟨(ad.add (m * 5)).block, (ad.add (m * 5)).off + 4, none⟩)),
            (fun x_ _ => x_ = .int .i64 op)] (fun W => Ext w1 W) Ext rfl rfl rfl
            ?st ((Ext.rfl' w1).drew') ?ob ?en
          case st => exact ⟨fun _ _ _ h _ => h, fun _ _ _ h _ => h, fun _ _ _ h _ => h, fun _ _ _ h _ => h, fun _ _ _ h _ => h, fun _ _ _ h _ => h, fun _ _ _ h _ => h, fun _ _ _ h _ => h, fun _ _ _ h _ => h, fun _ _ _ h _ => h, fun _ _ _ h _ => h, trivial⟩
          case ob =>
            refine ⟨Rg.at_run [3] rfl ?_, ?_⟩
            · intro ρ W hR ⟨q3, _⟩
              replace q3 : ρ 3 = .pointer (some ⟨gd, 0, none⟩) := q3
              refine ⟨rfl, ?_⟩
              exact Rg.run_ok (v := .pointer (some ⟨gd, 0, none⟩)) (by simp [execOp, Rg.ev, go_sem, q3]) ⟨rfl, hR, Ext.rfl' _⟩
            refine ⟨Rg.at_run [0] rfl ?_, ?_⟩
            · intro ρ W hR ⟨q0, _⟩
              replace q0 : ρ 0 = .slice (some ad) l.length cx := q0
              refine ⟨rfl, ?_⟩
              exact Rg.run_ok (v := .slice (some ad) l.length cx) (by simp [execOp, Rg.ev, go_sem, q0]) ⟨rfl, hR, Ext.rfl' _⟩
            refine ⟨Rg.at_run [10] rfl ?_, ?_⟩
            · intro ρ W hR ⟨q10, _⟩
              replace q10 : ρ 10 = .int .i64 m := q10
              refine ⟨rfl, ?_⟩
              exact Rg.run_ok (v := .int .i64 m) (by simp [execOp, Rg.ev, go_sem, q10]) ⟨rfl, hR, Ext.rfl' _⟩
            refine ⟨Rg.at_run [64, 65] rfl ?_, ?_⟩
            · intro ρ W hR ⟨q64, q65, _⟩
              replace q64 : ρ 64 = .slice (some ad) l.length cx := q64
              replace q65 : ρ 65 = .int .i64 m := q65
              refine ⟨rfl, ?_⟩
              exact Rg.run_ok (v := .pointer (some (ad.add (m * 5)))) (by simp [execOp, Rg.ev, go_sem, q64, q65, hm0, hml]) ⟨rfl, hR, Ext.rfl' _⟩
            refine ⟨Rg.at_run [66] rfl ?_, ?_⟩
            · intro ρ W hR ⟨q66, _⟩
              replace q66 : ρ 66 = .pointer (some (ad.add (m * 5))) := q66
              refine ⟨rfl, ?_⟩
              exact Rg.run_ok (v := .pointer (some ⟨(ad.add (m * 5)).block, (ad.add (m * 5)).off + 3, none⟩)) (by simp [execOp, Rg.ev, go_sem, q66]) ⟨rfl, hR, Ext.rfl' _⟩
            refine ⟨Rg.at_run [67] rfl ?_, ?_⟩
            · intro ρ W hR ⟨q67, _⟩
              replace q67 : ρ 67 = .pointer (some ⟨(ad.add (m * 5)).block, (ad.add (m * 5)).off + 3, none⟩) := q67
              refine ⟨rfl, ?_⟩
              have c_ : W.cell? ⟨(ad.add (m * 5)).block, (ad.add (m * 5)).off + 3, none⟩ = some (.int .i64 on) := ((hx0.trans' hR).cell (p := ⟨(ad.add (m * 5)).block, (ad.add (m * 5)).off + 3, none⟩) hab).trans p3
              exact Rg.run_ok (v := .int .i64 on) (by simp [execOp, Rg.ev, go_sem, q67, c_]) ⟨rfl, hR, Ext.rfl' _⟩
            refine ⟨Rg.at_run [0] rfl ?_, ?_⟩
            · intro ρ W hR ⟨q0, _⟩
              replace q0 : ρ 0 = .slice (some ad) l.length cx := q0
              refine ⟨rfl, ?_⟩
              exact Rg.run_ok (v := .slice (some ad) l.length cx) (by simp [execOp, Rg.ev, go_sem, q0]) ⟨rfl, hR, Ext.rfl' _⟩
            refine ⟨Rg.at_run [10] rfl ?_, ?_⟩
            · intro ρ W hR ⟨q10, _⟩
              replace q10 : ρ 10 = .int .i64 m := q10
              refine ⟨rfl, ?_⟩
              exact Rg.run_ok (v := .int .i64 m) (by simp [execOp, Rg.ev, go_sem, q10]) ⟨rfl, hR, Ext.rfl' _⟩
            refine ⟨Rg.at_run [69, 70] rfl ?_, ?_⟩
            · intro ρ W hR ⟨q69, q70, _⟩
              replace q69 : ρ 69 = .slice (some ad) l.length cx := q69
              replace q70 : ρ 70 = .int .i64 m := q70
              refine ⟨rfl, ?_⟩
              exact Rg.run_ok (v := .pointer (some (ad.add (m * 5)))) (by simp [execOp, Rg.ev, go_sem, q69, q70, hm0, hml]) ⟨rfl, hR, Ext.rfl' _⟩
            refine ⟨Rg.at_run [71] rfl ?_, ?_⟩
            · intro ρ W hR ⟨q71, _⟩
              replace q71 : ρ 71 = .pointer (some (ad.add (m * 5))) := q71
              refine ⟨rfl, ?_⟩
              exact Rg.run_ok (v := .pointer (some ⟨(ad.add (m * 5)).block, (ad.add (m * 5)).off + 4, none⟩)) (by simp [execOp, Rg.ev, go_sem, q71]) ⟨rfl, hR, Ext.rfl' _⟩
            refine ⟨Rg.at_run [72] rfl ?_, ?_⟩
            · intro ρ W hR ⟨q72, _⟩
              replace q72 : ρ 72 = .pointer (some ⟨(ad.add (m * 5)).block, (ad.add (m * 5)).off + 4, none⟩) := q72
              refine ⟨rfl, ?_⟩
              have c_ : W.cell? ⟨(ad.add (m * 5)).block, (ad.add (m * 5)).off + 4, none⟩ = some (.int .i64 op) := ((hx0.trans' hR).cell (p := ⟨(ad.add (m * 5)).block, (ad.add (m * 5)).off + 4, none⟩) hab).trans p4
              exact Rg.run_ok (v := .int .i64 op) (by simp [execOp, Rg.ev, go_sem, q72, c_]) ⟨rfl, hR, Ext.rfl' _⟩
            trivial
          case en =>
            intro tm W hR hsz hk
            rw [Rg.fin_eq (ds := [63, 64, 65, 66, 67, 68, 69, 70, 71, 72, 73]) rfl rfl rfl hsz hk]
            have k63 : tm.getD 63 undef = .pointer (some ⟨gd, 0, none⟩) := hk 63
            have k64 : tm.getD 64 undef = .slice (some ad) l.length cx := hk 64
            have k65 : tm.getD 65 undef = .int .i64 m := hk 65
            have k66 : tm.getD 66 undef = .pointer (some (ad.add (m * 5))) := hk 66
            have k67 : tm.getD 67 undef = .pointer (some ⟨(ad.add (m * 5)).block, (ad.add (m * 5)).off + 3, none⟩) := hk 67
            have k68 : tm.getD 68 undef = .int .i64 on := hk 68
            have k69 : tm.getD 69 undef = .slice (some ad) l.length cx := hk 69
            have k70 : tm.getD 70 undef = .int .i64 m := hk 70
            have k71 : tm.getD 71 undef = .pointer (some (ad.add (m * 5))) := hk 71
            have k72 : tm.getD 72 undef = .pointer (some ⟨(ad.add (m * 5)).block, (ad.add (m * 5)).off + 4, none⟩) := hk 72
            have k73 : tm.getD 73 undef = .int .i64 op := hk 73
            clear hk hsz
            simp only [Rg.putAll, List.setIfInBounds_toArray, List.set_cons_zero, List.set_cons_succ, k63, k64, k65, k66, k67, k68, k69, k70, k71, k72, k73]
            clear k63
            clear k64
            clear k65
            clear k66
            clear k67
            clear k68
            clear k69
            clear k70
            clear k71
            clear k72
            clear k73
            obtain ⟨v, hdv, hto⟩ := (hT.ext_ hR).pd
            simp only [List.drop_succ_cons, List.drop_zero]
            go_wp2_with fail
            refine (disk_arm gd v d on op W hdv hn1 hn2).mono ?_
            rintro e w3 ⟨rfl, hd3⟩
            have hT3 := hto _ _ hd3
            clear hto hdv hR hx0 q2
            have hx0 := hT3.ext0
            go_upto_region 17 with fail
            refine Rg.regionT Try.checked.mixed 211 11 (by kernel_rfl) [
              (fun x_ _ => x_ = .pointer (some ⟨rd, 0, none⟩)),
              (fun x_ _ => x_ = .slice (some ad) l.length cx),
              (fun x_ _ => x_ = .int .i64 m),
              (fun x_ _ => x_ = .pointer (some (ad.add (m * 5)))),
              (fun x_ _ => x_ = .pointer (some ⟨(ad.add (m * 5)).block, (ad.add (m * 5)).off + 3, none⟩)),
              (fun x_ _ => x_ = .int .i64 on),
              (fun x_ _ => x_ = .slice (some ad) l.length cx),
              (fun x_ _ => x_ = .int .i64 m),
              (fun x_ _ => x_ = .pointer (some (ad.add (m * 5)))),
              (fun x_ _ => x_ = .pointer (some ⟨(ad.add (m * 5)).block, (ad.add (m * 5)).off + 4, none⟩)),
              (fun x_ _ => x_ = .int .i64 op)] (fun W => Ext w3 W) Ext rfl rfl rfl
              ?st ((Ext.rfl' w3).drew') ?ob ?en
            case st => exact ⟨fun _ _ _ h _ => h, fun _ _ _ h _ => h, fun _ _ _ h _ => h, fun _ _ _ h _ => h, fun _ _ _ h _ => h, fun _ _ _ h _ => h, fun _ _ _ h _ => h, fun _ _ _ h _ => h, fun _ _ _ h _ => h, fun _ _ _ h _ => h, fun _ _ _ h _ => h, trivial⟩
            case ob =>
              refine ⟨Rg.at_run [4] rfl ?_, ?_⟩
              · intro ρ W hR ⟨q4, _⟩
                replace q4 : ρ 4 = .pointer (some ⟨rd, 0, none⟩) := q4
                refine ⟨rfl, ?_⟩
                exact Rg.run_ok (v := .pointer (some ⟨rd, 0, none⟩)) (by simp [execOp, Rg.ev, go_sem, q4]) ⟨rfl, hR, Ext.rfl' _⟩
              refine ⟨Rg.at_run [0] rfl ?_, ?_⟩
              · intro ρ W hR ⟨q0, _⟩
                replace q0 : ρ 0 = .slice (some ad) l.length cx := q0
                refine ⟨rfl, ?_⟩
                exact Rg.run_ok (v := .slice (some ad) l.length cx) (by simp [execOp, Rg.ev, go_sem, q0]) ⟨rfl, hR, Ext.rfl' _⟩
              refine ⟨Rg.at_run [10] rfl ?_, ?_⟩
              · intro ρ W hR ⟨q10, _⟩
                replace q10 : ρ 10 = .int .i64 m := q10
                refine ⟨rfl, ?_⟩
                exact Rg.run_ok (v := .int .i64 m) (by simp [execOp, Rg.ev, go_sem, q10]) ⟨rfl, hR, Ext.rfl' _⟩
              refine ⟨Rg.at_run [76, 77] rfl ?_, ?_⟩
              · intro ρ W hR ⟨q76, q77, _⟩
                replace q76 : ρ 76 = .slice (some ad) l.length cx := q76
                replace q77 : ρ 77 = .int .i64 m := q77
                refine ⟨rfl, ?_⟩
                exact Rg.run_ok (v := .pointer (some (ad.add (m * 5)))) (by simp [execOp, Rg.ev, go_sem, q76, q77, hm0, hml]) ⟨rfl, hR, Ext.rfl' _⟩
              refine ⟨Rg.at_run [78] rfl ?_, ?_⟩
              · intro ρ W hR ⟨q78, _⟩
                replace q78 : ρ 78 = .pointer (some (ad.add (m * 5))) := q78
                refine ⟨rfl, ?_⟩
                exact Rg.run_ok (v := .pointer (some ⟨(ad.add (m * 5)).block, (ad.add (m * 5)).off + 3, none⟩)) (by simp [execOp, Rg.ev, go_sem, q78]) ⟨rfl, hR, Ext.rfl' _⟩
              refine ⟨Rg.at_run [79] rfl ?_, ?_⟩
              · intro ρ W hR ⟨q79, _⟩
                replace q79 : ρ 79 = .pointer (some ⟨(ad.add (m * 5)).block, (ad.add (m * 5)).off + 3, none⟩) := q79
                refine ⟨rfl, ?_⟩
                have c_ : W.cell? ⟨(ad.add (m * 5)).block, (ad.add (m * 5)).off + 3, none⟩ = some (.int .i64 on) := ((hx0.trans' hR).cell (p := ⟨(ad.add (m * 5)).block, (ad.add (m * 5)).off + 3, none⟩) hab).trans p3
                exact Rg.run_ok (v := .int .i64 on) (by simp [execOp, Rg.ev, go_sem, q79, c_]) ⟨rfl, hR, Ext.rfl' _⟩
              refine ⟨Rg.at_run [0] rfl ?_, ?_⟩
              · intro ρ W hR ⟨q0, _⟩
                replace q0 : ρ 0 = .slice (some ad) l.length cx := q0
                refine ⟨rfl, ?_⟩
                exact Rg.run_ok (v := .slice (some ad) l.length cx) (by simp [execOp, Rg.ev, go_sem, q0]) ⟨rfl, hR, Ext.rfl' _⟩
              refine ⟨Rg.at_run [10] rfl ?_, ?_⟩
              · intro ρ W hR ⟨q10, _⟩
                replace q10 : ρ 10 = .int .i64 m := q10
                refine ⟨rfl, ?_⟩
                exact Rg.run_ok (v := .int .i64 m) (by simp [execOp, Rg.ev, go_sem, q10]) ⟨rfl, hR, Ext.rfl' _⟩
              refine ⟨Rg.at_run [81, 82] rfl ?_, ?_⟩
              · intro ρ W hR ⟨q81, q82, _⟩
                replace q81 : ρ 81 = .slice (some ad) l.length cx := q81
                replace q82 : ρ 82 = .int .i64 m := q82
                refine ⟨rfl, ?_⟩
                exact Rg.run_ok (v := .pointer (some (ad.add (m * 5)))) (by simp [execOp, Rg.ev, go_sem, q81, q82, hm0, hml]) ⟨rfl, hR, Ext.rfl' _⟩
              refine ⟨Rg.at_run [83] rfl ?_, ?_⟩
              · intro ρ W hR ⟨q83, _⟩
                replace q83 : ρ 83 = .pointer (some (ad.add (m * 5))) := q83
                refine ⟨rfl, ?_⟩
                exact Rg.run_ok (v := .pointer (some ⟨(ad.add (m * 5)).block, (ad.add (m * 5)).off + 4, none⟩)) (by simp [execOp, Rg.ev, go_sem, q83]) ⟨rfl, hR, Ext.rfl' _⟩
              refine ⟨Rg.at_run [84] rfl ?_, ?_⟩
              · intro ρ W hR ⟨q84, _⟩
                replace q84 : ρ 84 = .pointer (some ⟨(ad.add (m * 5)).block, (ad.add (m * 5)).off + 4, none⟩) := q84
                refine ⟨rfl, ?_⟩
                have c_ : W.cell? ⟨(ad.add (m * 5)).block, (ad.add (m * 5)).off + 4, none⟩ = some (.int .i64 op) := ((hx0.trans' hR).cell (p := ⟨(ad.add (m * 5)).block, (ad.add (m * 5)).off + 4, none⟩) hab).trans p4
                exact Rg.run_ok (v := .int .i64 op) (by simp [execOp, Rg.ev, go_sem, q84, c_]) ⟨rfl, hR, Ext.rfl' _⟩
              trivial
            case en =>
              intro tm W hR hsz hk
              rw [Rg.fin_eq (ds := [75, 76, 77, 78, 79, 80, 81, 82, 83, 84, 85]) rfl rfl rfl hsz hk]
              have k75 : tm.getD 75 undef = .pointer (some ⟨rd, 0, none⟩) := hk 75
              have k76 : tm.getD 76 undef = .slice (some ad) l.length cx := hk 76
              have k77 : tm.getD 77 undef = .int .i64 m := hk 77
              have k78 : tm.getD 78 undef = .pointer (some (ad.add (m * 5))) := hk 78
              have k79 : tm.getD 79 undef = .pointer (some ⟨(ad.add (m * 5)).block, (ad.add (m * 5)).off + 3, none⟩) := hk 79
              have k80 : tm.getD 80 undef = .int .i64 on := hk 80
              have k81 : tm.getD 81 undef = .slice (some ad) l.length cx := hk 81
              have k82 : tm.getD 82 undef = .int .i64 m := hk 82
              have k83 : tm.getD 83 undef = .pointer (some (ad.add (m * 5))) := hk 83
              have k84 : tm.getD 84 undef = .pointer (some ⟨(ad.add (m * 5)).block, (ad.add (m * 5)).off + 4, none⟩) := hk 84
              have k85 : tm.getD 85 undef = .int .i64 op := hk 85
              clear hk hsz
              simp only [Rg.putAll, List.setIfInBounds_toArray, List.set_cons_zero, List.set_cons_succ, k75, k76, k77, k78, k79, k80, k81, k82, k83, k84, k85]
              clear k75
              clear k76
              clear k77
              clear k78
              clear k79
              clear k80
              clear k81
              clear k82
              clear k83
              clear k84
              clear k85
              obtain ⟨u, hru, hto⟩ := (hT3.ext_ hR).rd_
              simp only [List.drop_succ_cons, List.drop_zero]
              go_wp2_with fail
              refine (ref_arm rd u r on op W hru hn1 hn2).mono ?_
              rintro e w5 ⟨rfl, hr3⟩
              have hT4 := hto _ _ hr3
              go_wp2_with fail
              go_meet
              case rel => exact ⟨_, _, hT4, hide (HE.out.arm _ _), hide (HA.out.arm _ _)⟩
      case rest =>
      clear hT HE HA q2 hx0
      obtain ⟨d, r, hT, HE, HA⟩ := hcut
      generalize wc = w1 at *
      have hEq := HE.out.save k lm
      have hMd := save_mid HA.out hll hnl (by omega)
      obtain ⟨⟨d1, k3, e1⟩, hq1⟩ : ∃ q, save d k lm = q := ⟨_, rfl⟩
      obtain ⟨⟨r1, k4, e2⟩, hq2⟩ : ∃ q, rsave r k lm = q := ⟨_, rfl⟩
      have HSV := hide (fun (W : World) (h : TwoSt w W gs gd rs rd k k d r) => h.save_ (.slice B lm.length cB) lm (44 * m) HA.out.kp.2.2.1 hxv (fun r hr => (hll r hr).1) (by omega))
      have HRS := hide (fun (W : World) (h : TwoSt w W gs gd rs rd k3 k d1 r) => h.rsave_ (.slice B lm.length cB) lm (44 * m) HA.out.kp.2.2.1 hxv (fun r hr => (hll r hr).1) (by omega))
      rw [hq1] at hEq hMd HSV
      rw [hq2] at hEq HRS
      simp only at hEq hMd HSV HRS
      obtain ⟨h1, h2⟩ := hEq
      obtain ⟨rfl, rfl⟩ := Prod.mk.inj h1
      have HKP := hide (fun (W : World) (h : TwoSt w W gs gd rs rd k3 k3 d1 r1) => h.kept_ (44 * m + 22) hMd.small (by omega))
      have HE2 := hide h2
      have HM := hide hMd
      clear h1 h2 hMd hq1 hq2 HE HA
      go_upto_region 18 with fail
      refine Rg.regionL Try.checked.mixed 211 25 2 (by kernel_rfl) [
        ((false, false), (fun x_ _ => x_ = .pointer (some ⟨gs, 0, none⟩))),
        ((false, false), (fun x_ _ => x_ = .slice (some ad) l.length cx)),
        ((false, false), (fun x_ _ => x_ = .int .i64 m)),
        ((false, false), (fun x_ _ => x_ = .pointer (some (ad.add (m * 5))))),
        ((false, false), (fun x_ _ => x_ = .pointer (some (ad.add (m * 5))))),
        ((false, false), (fun x_ _ => x_ = .slice B lm.length cB)),
        ((true, false), (fun x_ _ => x_ = .int .i64 e1)),
        ((false, false), (fun x_ _ => x_ = .pointer (some ⟨rs, 0, none⟩))),
        ((false, false), (fun x_ _ => x_ = .slice (some ad) l.length cx)),
        ((false, false), (fun x_ _ => x_ = .int .i64 m)),
        ((false, false), (fun x_ _ => x_ = .pointer (some (ad.add (m * 5))))),
        ((false, false), (fun x_ _ => x_ = .pointer (some (ad.add (m * 5))))),
        ((false, false), (fun x_ _ => x_ = .slice B lm.length cB)),
        ((true, false), (fun x_ _ => x_ = .int .i64 e1)),
        ((false, false), (fun x_ _ => x_ = .bool false)),
        ((false, false), (fun x_ _ => x_ = .bool false)),
        ((false, true), (fun x_ _ => x_ = .pointer (some ⟨gs, 0, none⟩))),
        ((false, true), (fun v W => ∃ (A : Option Addr) (c : Nat) (C : Option Addr) (dd : Nat) (b_ : World), v = .agg (kpcells k3 (.slice A k3.snap.state.length c) (.slice C k3.ents.length dd)).toArray ∧ Bs W (.slice A k3.snap.state.length c) k3.snap.state ∧ Own 74 enE b_ W noneAt (.slice C k3.ents.length dd) k3.ents)),
        ((false, true), (fun x_ _ => x_ = .pointer (some ⟨rs, 0, none⟩))),
        ((false, true), (fun x_ _ => x_ = .pointer (some ⟨rs, 0, none⟩))),
        ((false, true), (fun x_ _ => x_ = .pointer (some ⟨rs, 1, none⟩))),
        ((false, true), (fun v W => ∃ (A : Option Addr) (c : Nat) (C : Option Addr) (dd : Nat), v = .agg (kpcells k3 (.slice A k3.snap.state.length c) (.slice C k3.ents.length dd)).toArray ∧ Enc.BsX W (fun j => j ∈ [gs, gd, rs, rd]) (.slice A k3.snap.state.length c) k3.snap.state ∧ Enc.Sl enE W (fun j => j ∈ [gs, gd, rs, rd]) (.slice C k3.ents.length dd) k3.ents)),
        ((false, true), (fun x_ _ => x_ = .bool true)),
        ((false, true), (fun x_ _ => x_ = .bool false)),
        ((false, true), (fun x_ _ => x_ = .bool false))] (by kernel_rfl) ((fun i W => match i with | 0 => TwoSt w W gs gd rs rd k k d r | 1 => TwoSt w W gs gd rs rd k3 k d1 r | _ => TwoSt w W gs gd rs rd k3 k3 d1 r1)) (fun W W2 => GK W W2 ∧ Chg [gs, gd, rs, rd] W W2) rfl rfl rfl
        ?st (hT.ext_ ((Ext.rfl' _).drew')) ?ob ?en
      case st => exact ⟨fun _ _ _ h _ => h, fun _ _ _ h _ => h, fun _ _ _ h _ => h, fun _ _ _ h _ => h, fun _ _ _ h _ => h, fun _ _ _ h _ => h, fun _ _ _ h _ => h, fun _ _ _ h _ => h, fun _ _ _ h _ => h, fun _ _ _ h _ => h, fun _ _ _ h _ => h, fun _ _ _ h _ => h, fun _ _ _ h _ => h, fun _ _ _ h _ => h, fun _ _ _ h _ => h, fun _ _ _ h _ => h, fun _ _ _ h _ => h, fun _ _ _ ⟨A, c, C, dd, b_, h, h1, h2⟩ hG => ⟨A, c, C, dd, b_, h, hG.1.1 _ _ h1, hG.1.2 _ _ _ h2⟩, fun _ _ _ h _ => h, fun _ _ _ h _ => h, fun _ _ _ h _ => h, fun _ _ _ ⟨A, c, C, dd, h, h1, h2⟩ hG => ⟨A, c, C, dd, h, h1.chg hG.2 (fun k hk _ => hk), h2.chg hG.2 (fun k hk _ => hk)⟩, fun _ _ _ h _ => h, fun _ _ _ h _ => h, fun _ _ _ h _ => h, trivial⟩
      case ob =>
        refine ⟨Rg.l0 (fun i => Rg.at_runW [5] rfl ?_), ?_⟩
        · intro ρ W hR ⟨q5, _⟩
          replace q5 : ρ 5 = .pointer (some ⟨gs, 0, none⟩) := q5
          refine ⟨rfl, ?_⟩
          exact Rg.run_ok (v := .pointer (some ⟨gs, 0, none⟩)) (by simp [execOp, Rg.ev, go_sem, q5]) ⟨rfl, hR, (⟨GK.rfl_ _, Chg.refl _ _⟩)⟩
        refine ⟨Rg.l0 (fun i => Rg.at_runW [0] rfl ?_), ?_⟩
        · intro ρ W hR ⟨q0, _⟩
          replace q0 : ρ 0 = .slice (some ad) l.length cx := q0
          refine ⟨rfl, ?_⟩
          exact Rg.run_ok (v := .slice (some ad) l.length cx) (by simp [execOp, Rg.ev, go_sem, q0]) ⟨rfl, hR, (⟨GK.rfl_ _, Chg.refl _ _⟩)⟩
        refine ⟨Rg.l0 (fun i => Rg.at_runW [10] rfl ?_), ?_⟩
        · intro ρ W hR ⟨q10, _⟩
          replace q10 : ρ 10 = .int .i64 m := q10
          refine ⟨rfl, ?_⟩
          exact Rg.run_ok (v := .int .i64 m) (by simp [execOp, Rg.ev, go_sem, q10]) ⟨rfl, hR, (⟨GK.rfl_ _, Chg.refl _ _⟩)⟩
        refine ⟨Rg.l0 (fun i => Rg.at_runW [88, 89] rfl ?_), ?_⟩
        · intro ρ W hR ⟨q88, q89, _⟩
          replace q88 : ρ 88 = .slice (some ad) l.length cx := q88
          replace q89 : ρ 89 = .int .i64 m := q89
          refine ⟨rfl, ?_⟩
          exact Rg.run_ok (v := .pointer (some (ad.add (m * 5)))) (by simp [execOp, Rg.ev, go_sem, q88, q89, hm0, hml]) ⟨rfl, hR, GK.rfl_ _, Chg.refl _ _⟩
        refine ⟨Rg.l0 (fun i => Rg.at_runW [90] rfl ?_), ?_⟩
        · intro ρ W hR ⟨q90, _⟩
          replace q90 : ρ 90 = .pointer (some (ad.add (m * 5))) := q90
          refine ⟨rfl, ?_⟩
          exact Rg.run_ok (v := .pointer (some (ad.add (m * 5)))) (by simp [execOp, Rg.ev, go_sem, q90]) ⟨rfl, hR, GK.rfl_ _, Chg.refl _ _⟩
        refine ⟨Rg.l0 (fun i => Rg.at_runW [91] rfl ?_), ?_⟩
        · intro ρ W hR ⟨q91, _⟩
          replace q91 : ρ 91 = .pointer (some (ad.add (m * 5))) := q91
          refine ⟨rfl, ?_⟩
          have hx9 : Ext w W := by (rcases i with _ | _ | i) <;> exact TwoSt.ext0 hR
          have c_ : W.cell? (ad.add (m * 5)) = some (.slice B lm.length cB) := (hx9.cell (p := (ad.add (m * 5))) hab).trans p0
          exact Rg.run_ok (v := .slice B lm.length cB) (by simp [execOp, Rg.ev, go_sem, q91, c_]) ⟨rfl, hR, GK.rfl_ _, Chg.refl _ _⟩
        refine ⟨Rg.l1 (Rg.at_runW [87, 92] rfl ?_), ?_⟩
        · intro ρ W hR ⟨q87, q92, _⟩
          replace q87 : ρ 87 = .pointer (some ⟨gs, 0, none⟩) := q87
          replace q92 : ρ 92 = .slice B lm.length cB := q92
          refine ⟨rfl, ?_⟩
          refine Rg.enter_fn (args := #[.pointer (some ⟨gs, 0, none⟩), .slice B lm.length cB]) rfl (by simp only [List.map_toArray, List.map_cons, List.map_nil, Rg.ev, q87, q92]) (by kernel_rfl) ?_
          refine (HSV.out W hR).mono ?_
          rintro e_ w9 ⟨rfl, hT9, hc9⟩
          exact ⟨_, rfl, rfl, hT9, GK.chg hc9 (TwoSt.odd hR), hc9.mono (by simp)⟩
        refine ⟨Rg.l0 (fun i => Rg.at_runW [8] rfl ?_), ?_⟩
        · intro ρ W hR ⟨q8, _⟩
          replace q8 : ρ 8 = .pointer (some ⟨rs, 0, none⟩) := q8
          refine ⟨rfl, ?_⟩
          exact Rg.run_ok (v := .pointer (some ⟨rs, 0, none⟩)) (by simp [execOp, Rg.ev, go_sem, q8]) ⟨rfl, hR, (⟨GK.rfl_ _, Chg.refl _ _⟩)⟩
        refine ⟨Rg.l0 (fun i => Rg.at_runW [0] rfl ?_), ?_⟩
        · intro ρ W hR ⟨q0, _⟩
          replace q0 : ρ 0 = .slice (some ad) l.length cx := q0
          refine ⟨rfl, ?_⟩
          exact Rg.run_ok (v := .slice (some ad) l.length cx) (by simp [execOp, Rg.ev, go_sem, q0]) ⟨rfl, hR, (⟨GK.rfl_ _, Chg.refl _ _⟩)⟩
        refine ⟨Rg.l0 (fun i => Rg.at_runW [10] rfl ?_), ?_⟩
        · intro ρ W hR ⟨q10, _⟩
          replace q10 : ρ 10 = .int .i64 m := q10
          refine ⟨rfl, ?_⟩
          exact Rg.run_ok (v := .int .i64 m) (by simp [execOp, Rg.ev, go_sem, q10]) ⟨rfl, hR, (⟨GK.rfl_ _, Chg.refl _ _⟩)⟩
        refine ⟨Rg.l0 (fun i => Rg.at_runW [95, 96] rfl ?_), ?_⟩
        · intro ρ W hR ⟨q95, q96, _⟩
          replace q95 : ρ 95 = .slice (some ad) l.length cx := q95
          replace q96 : ρ 96 = .int .i64 m := q96
          refine ⟨rfl, ?_⟩
          exact Rg.run_ok (v := .pointer (some (ad.add (m * 5)))) (by simp [execOp, Rg.ev, go_sem, q95, q96, hm0, hml]) ⟨rfl, hR, GK.rfl_ _, Chg.refl _ _⟩
        refine ⟨Rg.l0 (fun i => Rg.at_runW [97] rfl ?_), ?_⟩
        · intro ρ W hR ⟨q97, _⟩
          replace q97 : ρ 97 = .pointer (some (ad.add (m * 5))) := q97
          refine ⟨rfl, ?_⟩
          exact Rg.run_ok (v := .pointer (some (ad.add (m * 5)))) (by simp [execOp, Rg.ev, go_sem, q97]) ⟨rfl, hR, GK.rfl_ _, Chg.refl _ _⟩
        refine ⟨Rg.l0 (fun i => Rg.at_runW [98] rfl ?_), ?_⟩
        · intro ρ W hR ⟨q98, _⟩
          replace q98 : ρ 98 = .pointer (some (ad.add (m * 5))) := q98
          refine ⟨rfl, ?_⟩
          have hx9 : Ext w W := by (rcases i with _ | _ | i) <;> exact TwoSt.ext0 hR
          have c_ : W.cell? (ad.add (m * 5)) = some (.slice B lm.length cB) := (hx9.cell (p := (ad.add (m * 5))) hab).trans p0
          exact Rg.run_ok (v := .slice B lm.length cB) (by simp [execOp, Rg.ev, go_sem, q98, c_]) ⟨rfl, hR, GK.rfl_ _, Chg.refl _ _⟩
        refine ⟨Rg.l1 (Rg.at_runW [94, 99] rfl ?_), ?_⟩
        · intro ρ W hR ⟨q94, q99, _⟩
          replace q94 : ρ 94 = .pointer (some ⟨rs, 0, none⟩) := q94
          replace q99 : ρ 99 = .slice B lm.length cB := q99
          refine ⟨rfl, ?_⟩
          refine Rg.enter_fn (args := #[.pointer (some ⟨rs, 0, none⟩), .slice B lm.length cB]) rfl (by simp only [List.map_toArray, List.map_cons, List.map_nil, Rg.ev, q94, q99]) (by kernel_rfl) ?_
          refine (HRS.out W hR).mono ?_
          rintro e_ w9 ⟨rfl, hT9, hc9⟩
          exact ⟨_, rfl, rfl, hT9, GK.chg hc9 (TwoSt.odd2 hR), hc9.mono (by simp)⟩
        refine ⟨Rg.l0 (fun i => Rg.at_runW [93, 100] rfl ?_), ?_⟩
        · intro ρ W hR ⟨q93, q100, _⟩
          replace q93 : ρ 93 = .int .i64 e1 := q93
          replace q100 : ρ 100 = .int .i64 e1 := q100
          refine ⟨rfl, ?_⟩
          exact Rg.run_ok (v := .bool false) (by simp [execOp, Rg.ev, go_sem, q93, q100]) ⟨rfl, hR, (⟨GK.rfl_ _, Chg.refl _ _⟩)⟩
        refine ⟨Rg.l0 (fun i => Rg.at_runW [101] rfl ?_), ?_⟩
        · intro ρ W hR ⟨q101, _⟩
          replace q101 : ρ 101 = .bool false := q101
          refine ⟨rfl, ?_⟩
          exact Rg.run_ok (v := .bool false) (by simp [execOp, Rg.ev, go_sem, q101]) ⟨rfl, hR, (⟨GK.rfl_ _, Chg.refl _ _⟩)⟩
        refine ⟨Rg.l2 (Rg.at_runW [5, 102] rfl ?_), ?_⟩
        · intro ρ W hR ⟨q5, q102, _⟩
          replace q5 : ρ 5 = .pointer (some ⟨gs, 0, none⟩) := q5
          replace q102 : ρ 102 = .bool false := q102
          refine ⟨by simp [Rg.wants, q102], ?_⟩
          exact Rg.run_ok (v := .pointer (some ⟨gs, 0, none⟩)) (by simp [execOp, Rg.ev, go_sem, q5]) ⟨rfl, hR, (⟨GK.rfl_ _, Chg.refl _ _⟩)⟩
        refine ⟨Rg.l2 (Rg.at_runW [103, 102] rfl ?_), ?_⟩
        · intro ρ W hR ⟨q103, q102, _⟩
          replace q103 : ρ 103 = .pointer (some ⟨gs, 0, none⟩) := q103
          replace q102 : ρ 102 = .bool false := q102
          refine ⟨by simp [Rg.wants, q102], ?_⟩
          refine Rg.enter_fn (args := #[.pointer (some ⟨gs, 0, none⟩)]) rfl (by simp only [List.map_toArray, List.map_cons, List.map_nil, Rg.ev, q103]) (by kernel_rfl) ?_
          refine (HKP.out W hR).mono ?_
          rintro e_ w9 ⟨Am, cm, Bm, dm, rfl, hb9, ho9, hx9⟩
          exact ⟨_, rfl, ⟨Am, cm, Bm, dm, W, rfl, hb9, ho9⟩, TwoSt.ext_ hR hx9, GK.ext hx9, hx9.chg _⟩
        refine ⟨Rg.l2 (Rg.at_runW [8, 102] rfl ?_), ?_⟩
        · intro ρ W hR ⟨q8, q102, _⟩
          replace q8 : ρ 8 = .pointer (some ⟨rs, 0, none⟩) := q8
          replace q102 : ρ 102 = .bool false := q102
          refine ⟨by simp [Rg.wants, q102], ?_⟩
          exact Rg.run_ok (v := .pointer (some ⟨rs, 0, none⟩)) (by simp [execOp, Rg.ev, go_sem, q8]) ⟨rfl, hR, (⟨GK.rfl_ _, Chg.refl _ _⟩)⟩
        refine ⟨Rg.l2 (Rg.at_runW [105, 102] rfl ?_), ?_⟩
        · intro ρ W hR ⟨q105, q102, _⟩
          replace q105 : ρ 105 = .pointer (some ⟨rs, 0, none⟩) := q105
          replace q102 : ρ 102 = .bool false := q102
          refine ⟨by simp [Rg.wants, q102], ?_⟩
          exact Rg.run_ok (v := .pointer (some ⟨rs, 0, none⟩)) (by simp [execOp, Rg.ev, go_sem, q105]) ⟨rfl, hR, (⟨GK.rfl_ _, Chg.refl _ _⟩)⟩
        refine ⟨Rg.l2 (Rg.at_runW [106, 102] rfl ?_), ?_⟩
        · intro ρ W hR ⟨q106, q102, _⟩
          replace q106 : ρ 106 = .pointer (some ⟨rs, 0, none⟩) := q106
          replace q102 : ρ 102 = .bool false := q102
          refine ⟨by simp [Rg.wants, q102], ?_⟩
          exact Rg.run_ok (v := .pointer (some ⟨rs, 1, none⟩)) (by simp [execOp, Rg.ev, go_sem, q106]) ⟨rfl, hR, GK.rfl_ _, Chg.refl _ _⟩
        refine ⟨Rg.l2 (Rg.at_runW [107, 102] rfl ?_), ?_⟩
        · intro ρ W hR ⟨q107, q102, _⟩
          replace q107 : ρ 107 = .pointer (some ⟨rs, 1, none⟩) := q107
          replace q102 : ρ 102 = .bool false := q102
          refine ⟨by simp [Rg.wants, q102], ?_⟩
          obtain ⟨Bq, bq, Cq, cq, hq9, hb9, hs9⟩ := TwoSt.rk hR
          have c1_ := (hq9.cell 1).trans rfl
          have c2_ := (hq9.cell 2).trans rfl
          have c3_ := (hq9.cell 3).trans rfl
          have c4_ := (hq9.cell 4).trans rfl
          have c5_ := (hq9.cell 5).trans rfl
          have c6_ := (hq9.cell 6).trans rfl
          exact Rg.run_ok (v := .agg (kpcells k3 (.slice Bq k3.snap.state.length bq) (.slice Cq k3.ents.length cq)).toArray) (by simp [execOp, Rg.ev, go_sem, q107, c1_, c2_, c3_, c4_, c5_, c6_]) ⟨⟨_, _, _, _, rfl, hb9, hs9⟩, hR, GK.rfl_ _, Chg.refl _ _⟩
        refine ⟨Rg.l2 (Rg.at_runW [104, 108, 102] rfl ?_), ?_⟩
        · intro ρ W hR ⟨q104, q108, q102, _⟩
          replace q104 : (fun v W => ∃ (A : Option Addr) (c : Nat) (C : Option Addr) (dd : Nat) (b_ : World), v = .agg (kpcells k3 (.slice A k3.snap.state.length c) (.slice C k3.ents.length dd)).toArray ∧ Bs W (.slice A k3.snap.state.length c) k3.snap.state ∧ Own 74 enE b_ W noneAt (.slice C k3.ents.length dd) k3.ents) (ρ 104) W := q104
          replace q108 : (fun v W => ∃ (A : Option Addr) (c : Nat) (C : Option Addr) (dd : Nat), v = .agg (kpcells k3 (.slice A k3.snap.state.length c) (.slice C k3.ents.length dd)).toArray ∧ Enc.BsX W (fun j => j ∈ [gs, gd, rs, rd]) (.slice A k3.snap.state.length c) k3.snap.state ∧ Enc.Sl enE W (fun j => j ∈ [gs, gd, rs, rd]) (.slice C k3.ents.length dd) k3.ents) (ρ 108) W := q108
          replace q102 : ρ 102 = .bool false := q102
          refine ⟨by simp [Rg.wants, q102], ?_⟩
          obtain ⟨A1, c1, C1, d1_, b1, hv1, hb1, ho1⟩ := q104
          obtain ⟨A2, c2, C2, d2_, hv2, hb2, ho2⟩ := q108
          refine Rg.enter_fn (args := #[.agg (kpcells k3 (.slice A1 k3.snap.state.length c1) (.slice C1 k3.ents.length d1_)).toArray, .agg (kpcells k3 (.slice A2 k3.snap.state.length c2) (.slice C2 k3.ents.length d2_)).toArray]) rfl (by simp only [List.map_toArray, List.map_cons, List.map_nil, Rg.ev, hv1, hv2]) (by kernel_rfl) ?_
          refine (sameKeptG_b k3 k3 _ _ _ _ W hb1 hb2.1 (slN ho1.sl) (slN ho2)).mono ?_
          rintro e_ w9 ⟨b9, rfl, hx9, hb9⟩
          obtain rfl : b9 = true := hb9.out.2 (by trivial)
          exact ⟨_, rfl, rfl, TwoSt.ext_ hR hx9, GK.ext hx9, hx9.chg _⟩
        refine ⟨Rg.l2 (Rg.at_runW [109, 102] rfl ?_), ?_⟩
        · intro ρ W hR ⟨q109, q102, _⟩
          replace q109 : ρ 109 = .bool true := q109
          replace q102 : ρ 102 = .bool false := q102
          refine ⟨by simp [Rg.wants, q102], ?_⟩
          exact Rg.run_ok (v := .bool false) (by simp [execOp, Rg.ev, go_sem, q109]) ⟨rfl, hR, (⟨GK.rfl_ _, Chg.refl _ _⟩)⟩
        refine ⟨Rg.l2 (Rg.at_runW [102, 110] rfl ?_), ?_⟩
        · intro ρ W hR ⟨q102, q110, _⟩
          replace q102 : ρ 102 = .bool false := q102
          replace q110 : ρ 110 = .bool false := q110
          refine ⟨rfl, ?_⟩
          exact Rg.run_ok (v := .bool false) (by simp [execOp, Rg.ev, go_sem, q102, q110]) ⟨rfl, hR, (⟨GK.rfl_ _, Chg.refl _ _⟩)⟩
        trivial
      case en =>
        intro tm W hR hsz hk
        rw [Rg.fin_eq (ds := [87, 88, 89, 90, 91, 92, 93, 94, 95, 96, 97, 98, 99, 100, 101, 102, 103, 104, 105, 106, 107, 108, 109, 110, 111]) rfl rfl rfl hsz hk]
        have k87 : tm.getD 87 undef = .pointer (some ⟨gs, 0, none⟩) := hk 87
        have k88 : tm.getD 88 undef = .slice (some ad) l.length cx := hk 88
        have k89 : tm.getD 89 undef = .int .i64 m := hk 89
        have k90 : tm.getD 90 undef = .pointer (some (ad.add (m * 5))) := hk 90
        have k91 : tm.getD 91 undef = .pointer (some (ad.add (m * 5))) := hk 91
        have k92 : tm.getD 92 undef = .slice B lm.length cB := hk 92
        have k93 : tm.getD 93 undef = .int .i64 e1 := hk 93
        have k94 : tm.getD 94 undef = .pointer (some ⟨rs, 0, none⟩) := hk 94
        have k95 : tm.getD 95 undef = .slice (some ad) l.length cx := hk 95
        have k96 : tm.getD 96 undef = .int .i64 m := hk 96
        have k97 : tm.getD 97 undef = .pointer (some (ad.add (m * 5))) := hk 97
        have k98 : tm.getD 98 undef = .pointer (some (ad.add (m * 5))) := hk 98
        have k99 : tm.getD 99 undef = .slice B lm.length cB := hk 99
        have k100 : tm.getD 100 undef = .int .i64 e1 := hk 100
        have k101 : tm.getD 101 undef = .bool false := hk 101
        have k102 : tm.getD 102 undef = .bool false := hk 102
        have k103 : tm.getD 103 undef = .pointer (some ⟨gs, 0, none⟩) := hk 103
        have k104 : (fun v W => ∃ (A : Option Addr) (c : Nat) (C : Option Addr) (dd : Nat) (b_ : World), v = .agg (kpcells k3 (.slice A k3.snap.state.length c) (.slice C k3.ents.length dd)).toArray ∧ Bs W (.slice A k3.snap.state.length c) k3.snap.state ∧ Own 74 enE b_ W noneAt (.slice C k3.ents.length dd) k3.ents) (tm.getD 104 undef) W := hk 104
        have k105 : tm.getD 105 undef = .pointer (some ⟨rs, 0, none⟩) := hk 105
        have k106 : tm.getD 106 undef = .pointer (some ⟨rs, 0, none⟩) := hk 106
        have k107 : tm.getD 107 undef = .pointer (some ⟨rs, 1, none⟩) := hk 107
        have k108 : (fun v W => ∃ (A : Option Addr) (c : Nat) (C : Option Addr) (dd : Nat), v = .agg (kpcells k3 (.slice A k3.snap.state.length c) (.slice C k3.ents.length dd)).toArray ∧ Enc.BsX W (fun j => j ∈ [gs, gd, rs, rd]) (.slice A k3.snap.state.length c) k3.snap.state ∧ Enc.Sl enE W (fun j => j ∈ [gs, gd, rs, rd]) (.slice C k3.ents.length dd) k3.ents) (tm.getD 108 undef) W := hk 108
        have k109 : tm.getD 109 undef = .bool true := hk 109
        have k110 : tm.getD 110 undef = .bool false := hk 110
        have k111 : tm.getD 111 undef = .bool false := hk 111
        clear hk hsz
        simp only [Rg.putAll, List.setIfInBounds_toArray, List.set_cons_zero, List.set_cons_succ, k87, k88, k89, k90, k91, k92, k93, k94, k95, k96, k97, k98, k99, k100, k101, k102, k103, k105, k106, k107, k109, k110, k111]
        clear k87
        clear k88
        clear k89
        clear k90
        clear k91
        clear k92
        clear k93
        clear k94
        clear k95
        clear k96
        clear k97
        clear k98
        clear k99
        clear k100
        clear k101
        clear k102
        clear k103
        generalize tm.getD 104 undef = u104 at *
        clear k105
        clear k106
        clear k107
        generalize tm.getD 108 undef = u108 at *
        clear k109
        clear k110
        clear k111
        refine Rg.nil_list ?_
        have hT : TwoSt w W gs gd rs rd k3 k3 d1 r1 := hR
        clear hR k104 k108 HSV HRS HKP
        have hx0 := hT.ext0
        have q1 := (hx0.cell (p := ⟨(ad.add (m * 5)).block, (ad.add (m * 5)).off + 1, none⟩) hab).trans p1
        have q3 := (hx0.cell (p := ⟨(ad.add (m * 5)).block, (ad.add (m * 5)).off + 3, none⟩) hab).trans p3
        go_upto_if 116 with fail
        go_cut [] (fun wx => ∃ d' r', TwoSt w wx gs gd rs rd k3 k3 d' r' ∧ Hid (Eqv d' r') ∧ Hid (d'.mid k3 (44 * m + 22)))
        case first =>
          cases oc with
          | false =>
            go_wp2_with fail
            go_meet
            case rel => exact ⟨d1, r1, hT, HE2, HM⟩
          | true =>
            obtain ⟨v, hdv, hto⟩ := hT.pd
            go_wp2_with fail
            refine (disk_crash gd v d1 on W hdv hn1).mono ?_
            rintro e w3 ⟨rfl, hd3⟩
            have hT3 := hto _ _ hd3
            have q4 := (hT3.ext0.cell (p := ⟨(ad.add (m * 5)).block, (ad.add (m * 5)).off + 3, none⟩) hab).trans p3
            obtain ⟨u, hru, hto2⟩ := hT3.rd_
            go_wp2_with fail
            refine (ref_crash rd u r1 on w3 hru.raw hn1).mono ?_
            rintro e w5 ⟨rfl, hr5⟩
            have hT5 := hto2 _ _ hr5
            go_wp2_with fail
            go_meet
            case rel => exact ⟨_, _, hT5, hide (HE2.out.crash _), hide (HM.out.crash _)⟩
        case rest =>
        clear hT HE2 HM q1 q3 hx0
        obtain ⟨d, r, hT, HE, HM⟩ := hcut
        generalize wc = w3 at *
        obtain ⟨u, hru, -⟩ := hT.rd_
        obtain ⟨b9, hb9⟩ : ∃ b, r.de = b := ⟨_, rfl⟩
        have c5 : w3.cell? ⟨rd, 5, none⟩ = some (.bool b9) := by rw [← hb9]; exact (hru.blk.cell 5).trans rfl
        have HB9 := hide hb9
        clear hb9 hru
        cases b9 with
        | false =>
          go_wp2_with fail
          go_roundw
          case rel => exact ⟨m + 1, k3, d, r, gs, rs, by have := HLT.out; omega, rfl, rfl, by go_num, hT, HE, hide ((HM.out.off (by rw [HE.out.de]; exact HB9.out)).mono (by omega))⟩
          case measure => have := HLT.out; simp [intOf]; omega
        | true =>
          obtain ⟨v, hdv, hto1⟩ := hT.pd
          go_wp2_with fail
          refine (disk_power gd v d w3 hdv).mono ?_
          rintro e w4 ⟨rfl, hd4⟩
          have hT4 := hto1 _ _ hd4
          obtain ⟨u4, hru4, hto4⟩ := hT4.rd_
          clear c5 hto1 hdv hd4
          go_wp2_with fail
          refine (ref_power rd u4 r w4 hru4).mono ?_
          rintro e w5 ⟨rfl, hr5⟩
          have hT5 := hto4 _ _ hr5
          clear hto4 hru4 hr5 hT4
          obtain ⟨k', d', po, pw, pk, ps, pn, pb, pd⟩ := HM.out.open_ (by rw [HE.out.de]; exact HB9.out) (by omega)
          have hEo := HE.out.power.open_
          have hrb : r.power.b = d.power.b := HE.out.power.b.symm
          obtain ⟨⟨r', e'⟩, hqr⟩ : ∃ q, ropenD r.power = q := ⟨_, rfl⟩
          rw [po, hqr] at hEo
          simp only at hEo
          obtain ⟨he0, hE'⟩ := hEo
          subst he0
          obtain ⟨gk, hgk⟩ : ∃ g, w5.heap.size = g := ⟨_, rfl⟩
          have hgkr : gk ≠ rd := by
            obtain ⟨u, hru, -⟩ := hT5.rd_
            have := hru.blk.lt
            omega
          have hK := Blk.new w5 53 zKept
          rw [hgk] at hK
          have hz : Ext w5 (w5.alloc (.cells zKept 53)) := (Ext.rfl' _).alloc' _
          go_upto_region 27 with fail
          change Code.wp _ _ _ _ (w5.alloc (.cells zKept 53))
          try rw [hgk]
          generalize (w5.alloc (.cells zKept 53)) = w6 at *
          have hgO : Odd w6 (fun j => j = gk) := fun j hj => by
            subst hj
            exact ⟨_, _, hK, by decide, by decide, zKept_no8⟩
          have HOP := hide (hT5.open_ gk w6 hz (by omega) hgO (44 * m + 42) k' pd pk ps (by omega) (by omega) pb po)
          have HRO := hide (fun (W : World) (h : TwoSt w W gs gd rs rd k3 k3 d' r.power) => True.intro)
          have HRS := hide (fun (W : World) gs_ (h : TwoSt w W gs_ gd rs rd k' k3 d' r.power) => h.ropen_ (44 * m + 42) k' (by show r.power.de = false; rfl) (by rw [hrb]; exact pk) (by rw [hrb]; exact ps) (by rw [hrb]; omega) (by omega) (by rw [hrb]; exact pb) hqr)
          have HP := hide hE'
          have HW := hide pw
          clear HRO po pk ps pn pb pd hrb hqr hE' pw hgk
          go_wp2_with fail
          refine HOP.out.mono ?_
          rintro e w7 ⟨gs', Am, cm, Bm, dm, rfl, hc7, hgg, hfin⟩
          have hK7 := hK.chg hc7 (by simpa using hgg)
          have x0 := (hK7.cell 0).trans rfl
          have y0 := hK7.frozen 0
          have x1 := (hK7.cell 1).trans rfl
          have y1 := hK7.frozen 1
          have x2 := (hK7.cell 2).trans rfl
          have y2 := hK7.frozen 2
          have x3 := (hK7.cell 3).trans rfl
          have y3 := hK7.frozen 3
          have x4 := (hK7.cell 4).trans rfl
          have y4 := hK7.frozen 4
          have x5 := (hK7.cell 5).trans rfl
          have y5 := hK7.frozen 5
          go_upto_region 28 with fail
          have hc8 : Chg [gk] w7 _ := (Chg.refl [gk] w7).sixK (g := gk) (by simp) (.int .u64 k'.hard.term) (.int .i64 k'.hard.vote) (.int .u64 k'.snap.index) (.int .u64 k'.snap.term) (.slice Am k'.snap.state.length cm) (.slice Bm k'.ents.length dm)
          have hK8 := Blk.sixK hK7 (.int .u64 k'.hard.term) (.int .i64 k'.hard.vote) (.int .u64 k'.snap.index) (.int .u64 k'.snap.term) (.slice Am k'.snap.state.length cm) (.slice Bm k'.ents.length dm)
          obtain ⟨hT8, hbA, heA⟩ := hfin _ hc8
          generalize ((((((w7.setCell ⟨gk, 0, none⟩ (.int .u64 k'.hard.term)).setCell ⟨gk, 1, none⟩ (.int .i64 k'.hard.vote)).setCell ⟨gk, 2, none⟩ (.int .u64 k'.snap.index)).setCell ⟨gk, 3, none⟩ (.int .u64 k'.snap.term)).setCell ⟨gk, 4, none⟩ (.slice Am k'.snap.state.length cm)).setCell ⟨gk, 5, none⟩ (.slice Bm k'.ents.length dm)) = w8 at *
          clear x0 x1 x2 x3 x4 x5 y0 y1 y2 y3 y4 y5 hK7 hfin hc8 hK hc7 HOP
          go_wp2_with fail
          refine (HRS.out w8 gs' hT8).mono ?_
          rintro e w9 ⟨rs', rfl, hT9, hc9⟩
          have hK9 := hK8.chg hc9 (by simpa using hgkr)
          have hb9 := (hbA.chg hc9 (fun j hj _ => .inr (List.mem_singleton.1 hj))).1
          have he9 := slN (heA.chg hc9 (fun j hj _ => .inr (List.mem_singleton.1 hj)))
          obtain ⟨Bq, bq, Cq, cq, hq9, hbq, heq⟩ := hT9.rk
          clear hK8 hbA heA hT8 hc9
          go_upto_region 31 with fail
          refine Rg.regionT Try.checked.mixed 211 11 (by kernel_rfl) [
            (fun x_ _ => x_ = .pointer (some ⟨gs', 0, none⟩)),
            (fun x_ _ => x_ = .bool false),
            (fun x_ _ => x_ = .bool false),
            (fun x_ _ => x_ = .agg #[.int .u64 k'.hard.term, .int .i64 k'.hard.vote, .int .u64 k'.snap.index, .int .u64 k'.snap.term, .slice Am k'.snap.state.length cm, .slice Bm k'.ents.length dm]),
            (fun x_ _ => x_ = .pointer (some ⟨rs', 0, none⟩)),
            (fun x_ _ => x_ = .pointer (some ⟨rs', 0, none⟩)),
            (fun x_ _ => x_ = .pointer (some ⟨rs', 1, none⟩)),
            (fun x_ _ => x_ = .agg #[.int .u64 k'.hard.term, .int .i64 k'.hard.vote, .int .u64 k'.snap.index, .int .u64 k'.snap.term, .slice Bq k'.snap.state.length bq, .slice Cq k'.ents.length cq]),
            (fun x_ _ => x_ = .bool true),
            (fun x_ _ => x_ = .bool false),
            (fun x_ _ => x_ = .bool false)] (fun W => Ext w9 W) Ext rfl rfl rfl
            ?st ((Ext.rfl' w9).drew') ?ob ?en
          case st => exact ⟨fun _ _ _ h _ => h, fun _ _ _ h _ => h, fun _ _ _ h _ => h, fun _ _ _ h _ => h, fun _ _ _ h _ => h, fun _ _ _ h _ => h, fun _ _ _ h _ => h, fun _ _ _ h _ => h, fun _ _ _ h _ => h, fun _ _ _ h _ => h, fun _ _ _ h _ => h, trivial⟩
          case ob =>
            refine ⟨Rg.at_run [5] rfl ?_, ?_⟩
            · intro ρ W hR ⟨q5, _⟩
              replace q5 : ρ 5 = .pointer (some ⟨gs', 0, none⟩) := q5
              refine ⟨rfl, ?_⟩
              exact Rg.run_ok (v := .pointer (some ⟨gs', 0, none⟩)) (by simp [execOp, Rg.ev, go_sem, q5]) ⟨rfl, hR, Ext.rfl' _⟩
            refine ⟨Rg.at_run [160] rfl ?_, ?_⟩
            · intro ρ W hR ⟨q160, _⟩
              replace q160 : ρ 160 = .pointer (some ⟨gs', 0, none⟩) := q160
              refine ⟨rfl, ?_⟩
              exact Rg.run_ok (v := .bool false) (by simp [execOp, Rg.ev, go_sem, q160]) ⟨rfl, hR, Ext.rfl' _⟩
            refine ⟨Rg.at_run [161] rfl ?_, ?_⟩
            · intro ρ W hR ⟨q161, _⟩
              replace q161 : ρ 161 = .bool false := q161
              refine ⟨rfl, ?_⟩
              exact Rg.run_ok (v := .bool false) (by simp [execOp, Rg.ev, go_sem, q161]) ⟨rfl, hR, Ext.rfl' _⟩
            refine ⟨Rg.at_run [11, 162] rfl ?_, ?_⟩
            · intro ρ W hR ⟨q11, q162, _⟩
              replace q11 : ρ 11 = .pointer (some ⟨gk, 0, none⟩) := q11
              replace q162 : ρ 162 = .bool false := q162
              refine ⟨by simp [Rg.wants, q162], ?_⟩
              have c0_ : W.cell? ⟨gk, 0, none⟩ = some (.int .u64 k'.hard.term) := ((hK9.ext hR).cell 0).trans rfl
              have c1_ : W.cell? ⟨gk, 1, none⟩ = some (.int .i64 k'.hard.vote) := ((hK9.ext hR).cell 1).trans rfl
              have c2_ : W.cell? ⟨gk, 2, none⟩ = some (.int .u64 k'.snap.index) := ((hK9.ext hR).cell 2).trans rfl
              have c3_ : W.cell? ⟨gk, 3, none⟩ = some (.int .u64 k'.snap.term) := ((hK9.ext hR).cell 3).trans rfl
              have c4_ : W.cell? ⟨gk, 4, none⟩ = some (.slice Am k'.snap.state.length cm) := ((hK9.ext hR).cell 4).trans rfl
              have c5_ : W.cell? ⟨gk, 5, none⟩ = some (.slice Bm k'.ents.length dm) := ((hK9.ext hR).cell 5).trans rfl
              exact Rg.run_ok (v := .agg #[.int .u64 k'.hard.term, .int .i64 k'.hard.vote, .int .u64 k'.snap.index, .int .u64 k'.snap.term, .slice Am k'.snap.state.length cm, .slice Bm k'.ents.length dm]) (by simp [execOp, Rg.ev, go_sem, q11, c0_, c1_, c2_, c3_, c4_, c5_]) ⟨rfl, hR, Ext.rfl' _⟩
            refine ⟨Rg.at_run [12, 162] rfl ?_, ?_⟩
            · intro ρ W hR ⟨q12, q162, _⟩
              replace q12 : ρ 12 = .pointer (some ⟨rs', 0, none⟩) := q12
              replace q162 : ρ 162 = .bool false := q162
              refine ⟨by simp [Rg.wants, q162], ?_⟩
              exact Rg.run_ok (v := .pointer (some ⟨rs', 0, none⟩)) (by simp [execOp, Rg.ev, go_sem, q12]) ⟨rfl, hR, Ext.rfl' _⟩
            refine ⟨Rg.at_run [164, 162] rfl ?_, ?_⟩
            · intro ρ W hR ⟨q164, q162, _⟩
              replace q164 : ρ 164 = .pointer (some ⟨rs', 0, none⟩) := q164
              replace q162 : ρ 162 = .bool false := q162
              refine ⟨by simp [Rg.wants, q162], ?_⟩
              exact Rg.run_ok (v := .pointer (some ⟨rs', 0, none⟩)) (by simp [execOp, Rg.ev, go_sem, q164]) ⟨rfl, hR, Ext.rfl' _⟩
            refine ⟨Rg.at_run [165, 162] rfl ?_, ?_⟩
            · intro ρ W hR ⟨q165, q162, _⟩
              replace q165 : ρ 165 = .pointer (some ⟨rs', 0, none⟩) := q165
              replace q162 : ρ 162 = .bool false := q162
              refine ⟨by simp [Rg.wants, q162], ?_⟩
              exact Rg.run_ok (v := .pointer (some ⟨rs', 1, none⟩)) (by simp [execOp, Rg.ev, go_sem, q165]) ⟨rfl, hR, Ext.rfl' _⟩
            refine ⟨Rg.at_run [166, 162] rfl ?_, ?_⟩
            · intro ρ W hR ⟨q166, q162, _⟩
              replace q166 : ρ 166 = .pointer (some ⟨rs', 1, none⟩) := q166
              replace q162 : ρ 162 = .bool false := q162
              refine ⟨by simp [Rg.wants, q162], ?_⟩
              have c1_ : W.cell? ⟨rs', 1, none⟩ = some (.int .u64 k'.hard.term) := ((hq9.ext hR).cell 1).trans rfl
              have c2_ : W.cell? ⟨rs', 2, none⟩ = some (.int .i64 k'.hard.vote) := ((hq9.ext hR).cell 2).trans rfl
              have c3_ : W.cell? ⟨rs', 3, none⟩ = some (.int .u64 k'.snap.index) := ((hq9.ext hR).cell 3).trans rfl
              have c4_ : W.cell? ⟨rs', 4, none⟩ = some (.int .u64 k'.snap.term) := ((hq9.ext hR).cell 4).trans rfl
              have c5_ : W.cell? ⟨rs', 5, none⟩ = some (.slice Bq k'.snap.state.length bq) := ((hq9.ext hR).cell 5).trans rfl
              have c6_ : W.cell? ⟨rs', 6, none⟩ = some (.slice Cq k'.ents.length cq) := ((hq9.ext hR).cell 6).trans rfl
              exact Rg.run_ok (v := .agg #[.int .u64 k'.hard.term, .int .i64 k'.hard.vote, .int .u64 k'.snap.index, .int .u64 k'.snap.term, .slice Bq k'.snap.state.length bq, .slice Cq k'.ents.length cq]) (by simp [execOp, Rg.ev, go_sem, q166, c1_, c2_, c3_, c4_, c5_, c6_]) ⟨rfl, hR, Ext.rfl' _⟩
            refine ⟨Rg.at_run [163, 167, 162] rfl ?_, ?_⟩
            · intro ρ W hR ⟨q163, q167, q162, _⟩
              replace q163 : ρ 163 = .agg #[.int .u64 k'.hard.term, .int .i64 k'.hard.vote, .int .u64 k'.snap.index, .int .u64 k'.snap.term, .slice Am k'.snap.state.length cm, .slice Bm k'.ents.length dm] := q163
              replace q167 : ρ 167 = .agg #[.int .u64 k'.hard.term, .int .i64 k'.hard.vote, .int .u64 k'.snap.index, .int .u64 k'.snap.term, .slice Bq k'.snap.state.length bq, .slice Cq k'.ents.length cq] := q167
              replace q162 : ρ 162 = .bool false := q162
              refine ⟨by simp [Rg.wants, q162], ?_⟩
              refine Rg.enter_fn (args := #[.agg #[.int .u64 k'.hard.term, .int .i64 k'.hard.vote, .int .u64 k'.snap.index, .int .u64 k'.snap.term, .slice Am k'.snap.state.length cm, .slice Bm k'.ents.length dm], .agg #[.int .u64 k'.hard.term, .int .i64 k'.hard.vote, .int .u64 k'.snap.index, .int .u64 k'.snap.term, .slice Bq k'.snap.state.length bq, .slice Cq k'.ents.length cq]]) rfl (by simp only [List.map_toArray, List.map_cons, List.map_nil, Rg.ev, q163, q167]) (by kernel_rfl) ?_
              refine (sameKeptG_b k' k' _ _ _ _ W (hb9.ext hR) (hbq.1.ext hR) (he9.ext hR) ((slN heq).ext hR)).mono ?_
              rintro e_ w9_ ⟨b9_, rfl, hx9, hb9_⟩
              obtain rfl : b9_ = true := hb9_.out.2 (by trivial)
              exact ⟨_, rfl, rfl, hR.trans' hx9, hx9⟩
            refine ⟨Rg.at_run [168, 162] rfl ?_, ?_⟩
            · intro ρ W hR ⟨q168, q162, _⟩
              replace q168 : ρ 168 = .bool true := q168
              replace q162 : ρ 162 = .bool false := q162
              refine ⟨by simp [Rg.wants, q162], ?_⟩
              exact Rg.run_ok (v := .bool false) (by simp [execOp, Rg.ev, go_sem, q168]) ⟨rfl, hR, Ext.rfl' _⟩
            refine ⟨Rg.at_run [162, 169] rfl ?_, ?_⟩
            · intro ρ W hR ⟨q162, q169, _⟩
              replace q162 : ρ 162 = .bool false := q162
              replace q169 : ρ 169 = .bool false := q169
              refine ⟨rfl, ?_⟩
              exact Rg.run_ok (v := .bool false) (by simp [execOp, Rg.ev, go_sem, q162, q169]) ⟨rfl, hR, Ext.rfl' _⟩
            trivial
          case en =>
            intro tm W hR hsz hk
            rw [Rg.fin_eq (ds := [160, 161, 162, 163, 164, 165, 166, 167, 168, 169, 170]) rfl rfl rfl hsz hk]
            have k160 : tm.getD 160 undef = .pointer (some ⟨gs', 0, none⟩) := hk 160
            have k161 : tm.getD 161 undef = .bool false := hk 161
            have k162 : tm.getD 162 undef = .bool false := hk 162
            have k163 : tm.getD 163 undef = .agg #[.int .u64 k'.hard.term, .int .i64 k'.hard.vote, .int .u64 k'.snap.index, .int .u64 k'.snap.term, .slice Am k'.snap.state.length cm, .slice Bm k'.ents.length dm] := hk 163
            have k164 : tm.getD 164 undef = .pointer (some ⟨rs', 0, none⟩) := hk 164
            have k165 : tm.getD 165 undef = .pointer (some ⟨rs', 0, none⟩) := hk 165
            have k166 : tm.getD 166 undef = .pointer (some ⟨rs', 1, none⟩) := hk 166
            have k167 : tm.getD 167 undef = .agg #[.int .u64 k'.hard.term, .int .i64 k'.hard.vote, .int .u64 k'.snap.index, .int .u64 k'.snap.term, .slice Bq k'.snap.state.length bq, .slice Cq k'.ents.length cq] := hk 167
            have k168 : tm.getD 168 undef = .bool true := hk 168
            have k169 : tm.getD 169 undef = .bool false := hk 169
            have k170 : tm.getD 170 undef = .bool false := hk 170
            clear hk hsz
            simp only [Rg.putAll, List.setIfInBounds_toArray, List.set_cons_zero, List.set_cons_succ, k160, k161, k162, k163, k164, k165, k166, k167, k168, k169, k170]
            clear k160
            clear k161
            clear k162
            clear k163
            clear k164
            clear k165
            clear k166
            clear k167
            clear k168
            clear k169
            clear k170
            refine Rg.nil_list ?_
            go_wp2_with fail
            go_roundw
            case rel => exact ⟨m + 1, k', d', r', gs', rs', by have := HLT.out; omega, rfl, rfl, by go_num, hT9.ext_ hR, HP, hide (HW.out.mono (by omega))⟩
            case measure => have := HLT.out; simp [intOf]; omega
    · have hde : d.de = false := by
        obtain ⟨_, -, -, h3, -⟩ := HA.out
        exact h3
      obtain ⟨v, hdv, -⟩ := hT.pd
      go_wp2_with fail
      refine (disk_read gd v d wr hdv hde).mono ?_
      rintro e w3 ⟨y, rfl, hy, hx3⟩
      obtain ⟨Ay, cy, rfl, -, -⟩ := own_slice (id hy)
      replace hT := hT.ext_ hx3
      clear hdv hx3
      go_wp2_with fail
      refine (open_none w3).mono ?_
      rintro e w4 ⟨rfl, hx4⟩
      obtain ⟨g9, hg9⟩ : ∃ g, w4.heap.size = g := ⟨_, rfl⟩
      have hz : Ext w4 (w4.alloc (.cells zKept 53)) := (Ext.rfl' _).alloc' _
      go_upto_region 37 with fail
      change Code.wp _ _ _ _ (w4.alloc (.cells zKept 53))
      try rw [hg9]
      have hyb : Bs (w4.alloc (.cells zKept 53)) (.slice Ay d.b.length cy) d.b := (hy.bs.ext hx4).ext hz
      replace hT := hT.ext_ (hx4.trans' hz)
      clear hz hx4 hy hg9
      generalize (w4.alloc (.cells zKept 53)) = w5 at *
      obtain ⟨u, hru, -⟩ := hT.rd_
      obtain ⟨Ar, cr, hur, -, -, -⟩ := id hru.bs
      subst hur
      have hrbb : d.b = r.b := HE.out.b
      refine Rg.regionT Try.checked.mixed 211 28 (by kernel_rfl) [
        (fun x_ _ => x_ = .int .i64 0),
        (fun x_ _ => x_ = .bool true),
        (fun x_ _ => x_ = .bool true),
        (fun x_ _ => x_ = .slice Ay d.b.length cy),
        (fun x_ _ => x_ = str d.b),
        (fun x_ _ => x_ = .pointer (some ⟨rd, 0, none⟩)),
        (fun x_ _ => x_ = .pointer (some ⟨rd, 0, none⟩)),
        (fun x_ _ => x_ = .pointer (some ⟨rd, 0, none⟩)),
        (fun x_ _ => x_ = .slice Ar r.b.length cr),
        (fun x_ _ => x_ = str r.b),
        (fun x_ _ => x_ = .bool true),
        (fun x_ _ => x_ = .bool true),
        (fun x_ _ => x_ = .bool true),
        (fun x_ _ => x_ = .pointer none),
        (fun x_ _ => x_ = .int .i64 1),
        (fun x_ _ => x_ = .bool true),
        (fun x_ _ => x_ = .bool true),
        (fun x_ _ => x_ = .bool true),
        (fun x_ _ => x_ = .pointer none),
        (fun x_ _ => x_ = .agg zKept),
        (fun x_ _ => x_ = .agg zKept),
        (fun x_ _ => x_ = .bool true),
        (fun x_ _ => x_ = .bool true),
        (fun x_ _ => x_ = .bool true),
        (fun x_ _ => x_ = .int .i64 1),
        (fun x_ _ => x_ = .bool true),
        (fun x_ _ => x_ = .bool true),
        (fun x_ _ => x_ = .bool true)] (fun W => Ext w5 W) Ext rfl rfl rfl
        ?st ((Ext.rfl' w5).drew') ?ob ?en
      case st => exact ⟨fun _ _ _ h _ => h, fun _ _ _ h _ => h, fun _ _ _ h _ => h, fun _ _ _ h _ => h, fun _ _ _ h _ => h, fun _ _ _ h _ => h, fun _ _ _ h _ => h, fun _ _ _ h _ => h, fun _ _ _ h _ => h, fun _ _ _ h _ => h, fun _ _ _ h _ => h, fun _ _ _ h _ => h, fun _ _ _ h _ => h, fun _ _ _ h _ => h, fun _ _ _ h _ => h, fun _ _ _ h _ => h, fun _ _ _ h _ => h, fun _ _ _ h _ => h, fun _ _ _ h _ => h, fun _ _ _ h _ => h, fun _ _ _ h _ => h, fun _ _ _ h _ => h, fun _ _ _ h _ => h, fun _ _ _ h _ => h, fun _ _ _ h _ => h, fun _ _ _ h _ => h, fun _ _ _ h _ => h, fun _ _ _ h _ => h, trivial⟩
      case ob =>
        refine ⟨Rg.at_run [15] rfl ?_, ?_⟩
        · intro ρ W hR ⟨q15, _⟩
          replace q15 : ρ 15 = .int .i64 0 := q15
          refine ⟨rfl, ?_⟩
          exact Rg.run_ok (v := .int .i64 0) (by simp [execOp, Rg.ev, go_sem, q15]) ⟨rfl, hR, Ext.rfl' _⟩
        refine ⟨Rg.at_run [184] rfl ?_, ?_⟩
        · intro ρ W hR ⟨q184, _⟩
          replace q184 : ρ 184 = .int .i64 0 := q184
          refine ⟨rfl, ?_⟩
          exact Rg.run_ok (v := .bool true) (by simp [execOp, Rg.ev, go_sem, q184]) ⟨rfl, hR, Ext.rfl' _⟩
        refine ⟨Rg.at_run [185] rfl ?_, ?_⟩
        · intro ρ W hR ⟨q185, _⟩
          replace q185 : ρ 185 = .bool true := q185
          refine ⟨rfl, ?_⟩
          exact Rg.run_ok (v := .bool true) (by simp [execOp, Rg.ev, go_sem, q185]) ⟨rfl, hR, Ext.rfl' _⟩
        refine ⟨Rg.at_run [14, 186] rfl ?_, ?_⟩
        · intro ρ W hR ⟨q14, q186, _⟩
          replace q14 : ρ 14 = .slice Ay d.b.length cy := q14
          replace q186 : ρ 186 = .bool true := q186
          refine ⟨by simp [Rg.wants, q186], ?_⟩
          exact Rg.run_ok (v := .slice Ay d.b.length cy) (by simp [execOp, Rg.ev, go_sem, q14]) ⟨rfl, hR, Ext.rfl' _⟩
        refine ⟨Rg.at_run [187, 186] rfl ?_, ?_⟩
        · intro ρ W hR ⟨q187, q186, _⟩
          replace q187 : ρ 187 = .slice Ay d.b.length cy := q187
          replace q186 : ρ 186 = .bool true := q186
          refine ⟨by simp [Rg.wants, q186], ?_⟩
          have hs := run_str (P := Try.prog) (hyb.ext hR) Try.underlying24 Try.underlying5 Try.underlying9
          exact Rg.run_ok (v := str d.b) (by simp only [execOp, Rg.ev, Sem.run_bind, Sem.run_pure, Result.andThen_ok, q187, hs]) ⟨rfl, hR, Ext.rfl' _⟩
        refine ⟨Rg.at_run [4, 186] rfl ?_, ?_⟩
        · intro ρ W hR ⟨q4, q186, _⟩
          replace q4 : ρ 4 = .pointer (some ⟨rd, 0, none⟩) := q4
          replace q186 : ρ 186 = .bool true := q186
          refine ⟨by simp [Rg.wants, q186], ?_⟩
          exact Rg.run_ok (v := .pointer (some ⟨rd, 0, none⟩)) (by simp [execOp, Rg.ev, go_sem, q4]) ⟨rfl, hR, Ext.rfl' _⟩
        refine ⟨Rg.at_run [189, 186] rfl ?_, ?_⟩
        · intro ρ W hR ⟨q189, q186, _⟩
          replace q189 : ρ 189 = .pointer (some ⟨rd, 0, none⟩) := q189
          replace q186 : ρ 186 = .bool true := q186
          refine ⟨by simp [Rg.wants, q186], ?_⟩
          exact Rg.run_ok (v := .pointer (some ⟨rd, 0, none⟩)) (by simp [execOp, Rg.ev, go_sem, q189]) ⟨rfl, hR, Ext.rfl' _⟩
        refine ⟨Rg.at_run [190, 186] rfl ?_, ?_⟩
        · intro ρ W hR ⟨q190, q186, _⟩
          replace q190 : ρ 190 = .pointer (some ⟨rd, 0, none⟩) := q190
          replace q186 : ρ 186 = .bool true := q186
          refine ⟨by simp [Rg.wants, q186], ?_⟩
          exact Rg.run_ok (v := .pointer (some ⟨rd, 0, none⟩)) (by simp [execOp, Rg.ev, go_sem, q190]) ⟨rfl, hR, Ext.rfl' _⟩
        refine ⟨Rg.at_run [191, 186] rfl ?_, ?_⟩
        · intro ρ W hR ⟨q191, q186, _⟩
          replace q191 : ρ 191 = .pointer (some ⟨rd, 0, none⟩) := q191
          replace q186 : ρ 186 = .bool true := q186
          refine ⟨by simp [Rg.wants, q186], ?_⟩
          have c0_ : W.cell? ⟨rd, 0, none⟩ = some (.slice Ar r.b.length cr) := ((hru.blk.ext hR).cell 0).trans rfl
          exact Rg.run_ok (v := .slice Ar r.b.length cr) (by simp [execOp, Rg.ev, go_sem, q191, c0_]) ⟨rfl, hR, Ext.rfl' _⟩
        refine ⟨Rg.at_run [192, 186] rfl ?_, ?_⟩
        · intro ρ W hR ⟨q192, q186, _⟩
          replace q192 : ρ 192 = .slice Ar r.b.length cr := q192
          replace q186 : ρ 186 = .bool true := q186
          refine ⟨by simp [Rg.wants, q186], ?_⟩
          have hs := run_str (P := Try.prog) (hru.bs.ext hR) Try.underlying24 Try.underlying5 Try.underlying9
          exact Rg.run_ok (v := str r.b) (by simp only [execOp, Rg.ev, Sem.run_bind, Sem.run_pure, Result.andThen_ok, q192, hs]) ⟨rfl, hR, Ext.rfl' _⟩
        refine ⟨Rg.at_run [188, 193, 186] rfl ?_, ?_⟩
        · intro ρ W hR ⟨q188, q193, q186, _⟩
          replace q188 : ρ 188 = str d.b := q188
          replace q193 : ρ 193 = str r.b := q193
          replace q186 : ρ 186 = .bool true := q186
          refine ⟨by simp [Rg.wants, q186], ?_⟩
          have g_ := hrbb
          exact Rg.run_ok (v := .bool true) (by simp [execOp, Rg.ev, go_sem, q188, q193, g_]) ⟨rfl, hR, Ext.rfl' _⟩
        refine ⟨Rg.at_run [186, 194] rfl ?_, ?_⟩
        · intro ρ W hR ⟨q186, q194, _⟩
          replace q186 : ρ 186 = .bool true := q186
          replace q194 : ρ 194 = .bool true := q194
          refine ⟨rfl, ?_⟩
          exact Rg.run_ok (v := .bool true) (by simp [execOp, Rg.ev, go_sem, q186, q194]) ⟨rfl, hR, Ext.rfl' _⟩
        refine ⟨Rg.at_run [195] rfl ?_, ?_⟩
        · intro ρ W hR ⟨q195, _⟩
          replace q195 : ρ 195 = .bool true := q195
          refine ⟨rfl, ?_⟩
          exact Rg.run_ok (v := .bool true) (by simp [execOp, Rg.ev, go_sem, q195]) ⟨rfl, hR, Ext.rfl' _⟩
        refine ⟨Rg.at_run [16, 196] rfl ?_, ?_⟩
        · intro ρ W hR ⟨q16, q196, _⟩
          replace q16 : ρ 16 = .pointer none := q16
          replace q196 : ρ 196 = .bool true := q196
          refine ⟨by simp [Rg.wants, q196], ?_⟩
          exact Rg.run_ok (v := .pointer none) (by simp [execOp, Rg.ev, go_sem, q16]) ⟨rfl, hR, Ext.rfl' _⟩
        refine ⟨Rg.at_run [197, 196] rfl ?_, ?_⟩
        · intro ρ W hR ⟨q197, q196, _⟩
          replace q197 : ρ 197 = .pointer none := q197
          replace q196 : ρ 196 = .bool true := q196
          refine ⟨by simp [Rg.wants, q196], ?_⟩
          refine Rg.enter_fn (args := #[.pointer none, .slice none 0 0]) rfl (by simp only [List.map_toArray, List.map_cons, List.map_nil, Rg.ev, q197]) (by kernel_rfl) ?_
          refine (none_save W).mono ?_
          rintro e_ w9 ⟨rfl, hxx⟩
          exact ⟨_, rfl, rfl, hR.trans' hxx, hxx⟩
        refine ⟨Rg.at_run [198, 196] rfl ?_, ?_⟩
        · intro ρ W hR ⟨q198, q196, _⟩
          replace q198 : ρ 198 = .int .i64 1 := q198
          replace q196 : ρ 196 = .bool true := q196
          refine ⟨by simp [Rg.wants, q196], ?_⟩
          exact Rg.run_ok (v := .bool true) (by simp [execOp, Rg.ev, go_sem, q198]) ⟨rfl, hR, Ext.rfl' _⟩
        refine ⟨Rg.at_run [196, 199] rfl ?_, ?_⟩
        · intro ρ W hR ⟨q196, q199, _⟩
          replace q196 : ρ 196 = .bool true := q196
          replace q199 : ρ 199 = .bool true := q199
          refine ⟨rfl, ?_⟩
          exact Rg.run_ok (v := .bool true) (by simp [execOp, Rg.ev, go_sem, q196, q199]) ⟨rfl, hR, Ext.rfl' _⟩
        refine ⟨Rg.at_run [200] rfl ?_, ?_⟩
        · intro ρ W hR ⟨q200, _⟩
          replace q200 : ρ 200 = .bool true := q200
          refine ⟨rfl, ?_⟩
          exact Rg.run_ok (v := .bool true) (by simp [execOp, Rg.ev, go_sem, q200]) ⟨rfl, hR, Ext.rfl' _⟩
        refine ⟨Rg.at_run [16, 201] rfl ?_, ?_⟩
        · intro ρ W hR ⟨q16, q201, _⟩
          replace q16 : ρ 16 = .pointer none := q16
          replace q201 : ρ 201 = .bool true := q201
          refine ⟨by simp [Rg.wants, q201], ?_⟩
          exact Rg.run_ok (v := .pointer none) (by simp [execOp, Rg.ev, go_sem, q16]) ⟨rfl, hR, Ext.rfl' _⟩
        refine ⟨Rg.at_run [202, 201] rfl ?_, ?_⟩
        · intro ρ W hR ⟨q202, q201, _⟩
          replace q202 : ρ 202 = .pointer none := q202
          replace q201 : ρ 201 = .bool true := q201
          refine ⟨by simp [Rg.wants, q201], ?_⟩
          refine Rg.enter_fn (args := #[.pointer none]) rfl (by simp only [List.map_toArray, List.map_cons, List.map_nil, Rg.ev, q202]) (by kernel_rfl) ?_
          refine (none_kept W).mono ?_
          rintro e_ w9 ⟨rfl, hxx⟩
          exact ⟨_, rfl, rfl, hR.trans' hxx, hxx⟩
        refine ⟨Rg.at_run [201] rfl ?_, ?_⟩
        · intro ρ W hR ⟨q201, _⟩
          replace q201 : ρ 201 = .bool true := q201
          refine ⟨by simp [Rg.wants, q201], ?_⟩
          exact Rg.run_ok (v := .agg zKept) (by simp [execOp, Rg.ev, go_sem] <;> rfl) ⟨rfl, hR, Ext.rfl' _⟩
        refine ⟨Rg.at_run [203, 204, 201] rfl ?_, ?_⟩
        · intro ρ W hR ⟨q203, q204, q201, _⟩
          replace q203 : ρ 203 = .agg zKept := q203
          replace q204 : ρ 204 = .agg zKept := q204
          replace q201 : ρ 201 = .bool true := q201
          refine ⟨by simp [Rg.wants, q201], ?_⟩
          refine Rg.enter_fn (args := #[.agg zKept, .agg zKept]) rfl (by simp only [List.map_toArray, List.map_cons, List.map_nil, Rg.ev, q203, q204]) (by kernel_rfl) ?_
          refine (sameKeptG_b Kp0 Kp0 (.slice none 0 0) (.slice none 0 0) (.slice none 0 0) (.slice none 0 0) W (Bs.nil _) (Bs.nil _) (Enc.Sl.nil _ _ _) (Enc.Sl.nil _ _ _)).mono ?_
          rintro e_ w9_ ⟨b9_, rfl, hx9, hb9_⟩
          obtain rfl : b9_ = true := hb9_.out.2 (by trivial)
          exact ⟨_, rfl, rfl, hR.trans' hx9, hx9⟩
        refine ⟨Rg.at_run [201, 205] rfl ?_, ?_⟩
        · intro ρ W hR ⟨q201, q205, _⟩
          replace q201 : ρ 201 = .bool true := q201
          replace q205 : ρ 205 = .bool true := q205
          refine ⟨rfl, ?_⟩
          exact Rg.run_ok (v := .bool true) (by simp [execOp, Rg.ev, go_sem, q201, q205]) ⟨rfl, hR, Ext.rfl' _⟩
        refine ⟨Rg.at_run [206] rfl ?_, ?_⟩
        · intro ρ W hR ⟨q206, _⟩
          replace q206 : ρ 206 = .bool true := q206
          refine ⟨rfl, ?_⟩
          exact Rg.run_ok (v := .bool true) (by simp [execOp, Rg.ev, go_sem, q206]) ⟨rfl, hR, Ext.rfl' _⟩
        refine ⟨Rg.at_run [19, 207] rfl ?_, ?_⟩
        · intro ρ W hR ⟨q19, q207, _⟩
          replace q19 : ρ 19 = .int .i64 1 := q19
          replace q207 : ρ 207 = .bool true := q207
          refine ⟨by simp [Rg.wants, q207], ?_⟩
          exact Rg.run_ok (v := .int .i64 1) (by simp [execOp, Rg.ev, go_sem, q19]) ⟨rfl, hR, Ext.rfl' _⟩
        refine ⟨Rg.at_run [208, 207] rfl ?_, ?_⟩
        · intro ρ W hR ⟨q208, q207, _⟩
          replace q208 : ρ 208 = .int .i64 1 := q208
          replace q207 : ρ 207 = .bool true := q207
          refine ⟨by simp [Rg.wants, q207], ?_⟩
          exact Rg.run_ok (v := .bool true) (by simp [execOp, Rg.ev, go_sem, q208]) ⟨rfl, hR, Ext.rfl' _⟩
        refine ⟨Rg.at_run [207, 209] rfl ?_, ?_⟩
        · intro ρ W hR ⟨q207, q209, _⟩
          replace q207 : ρ 207 = .bool true := q207
          replace q209 : ρ 209 = .bool true := q209
          refine ⟨rfl, ?_⟩
          exact Rg.run_ok (v := .bool true) (by simp [execOp, Rg.ev, go_sem, q207, q209]) ⟨rfl, hR, Ext.rfl' _⟩
        refine ⟨Rg.at_run [210] rfl ?_, ?_⟩
        · intro ρ W hR ⟨q210, _⟩
          replace q210 : ρ 210 = .bool true := q210
          refine ⟨rfl, ?_⟩
          exact Rg.run_ok (v := .bool true) (by simp [execOp, Rg.ev, go_sem, q210]) ⟨rfl, hR, Ext.rfl' _⟩
        trivial
      case en =>
        intro tm W hR hsz hk
        rw [Rg.fin_eq (ds := [184, 185, 186, 187, 188, 189, 190, 191, 192, 193, 194, 195, 196, 197, 198, 199, 200, 201, 202, 203, 204, 205, 206, 207, 208, 209, 210, 2]) rfl rfl rfl hsz hk]
        have k2 : tm.getD 2 undef = .bool true := hk 2
        have k184 : tm.getD 184 undef = .int .i64 0 := hk 184
        have k185 : tm.getD 185 undef = .bool true := hk 185
        have k186 : tm.getD 186 undef = .bool true := hk 186
        have k187 : tm.getD 187 undef = .slice Ay d.b.length cy := hk 187
        have k188 : tm.getD 188 undef = str d.b := hk 188
        have k189 : tm.getD 189 undef = .pointer (some ⟨rd, 0, none⟩) := hk 189
        have k190 : tm.getD 190 undef = .pointer (some ⟨rd, 0, none⟩) := hk 190
        have k191 : tm.getD 191 undef = .pointer (some ⟨rd, 0, none⟩) := hk 191
        have k192 : tm.getD 192 undef = .slice Ar r.b.length cr := hk 192
        have k193 : tm.getD 193 undef = str r.b := hk 193
        have k194 : tm.getD 194 undef = .bool true := hk 194
        have k195 : tm.getD 195 undef = .bool true := hk 195
        have k196 : tm.getD 196 undef = .bool true := hk 196
        have k197 : tm.getD 197 undef = .pointer none := hk 197
        have k198 : tm.getD 198 undef = .int .i64 1 := hk 198
        have k199 : tm.getD 199 undef = .bool true := hk 199
        have k200 : tm.getD 200 undef = .bool true := hk 200
        have k201 : tm.getD 201 undef = .bool true := hk 201
        have k202 : tm.getD 202 undef = .pointer none := hk 202
        have k203 : tm.getD 203 undef = .agg zKept := hk 203
        have k204 : tm.getD 204 undef = .agg zKept := hk 204
        have k205 : tm.getD 205 undef = .bool true := hk 205
        have k206 : tm.getD 206 undef = .bool true := hk 206
        have k207 : tm.getD 207 undef = .bool true := hk 207
        have k208 : tm.getD 208 undef = .int .i64 1 := hk 208
        have k209 : tm.getD 209 undef = .bool true := hk 209
        have k210 : tm.getD 210 undef = .bool true := hk 210
        clear hk hsz
        simp only [Rg.putAll, List.setIfInBounds_toArray, List.set_cons_zero, List.set_cons_succ, k2, k184, k185, k186, k187, k188, k189, k190, k191, k192, k193, k194, k195, k196, k197, k198, k199, k200, k201, k202, k203, k204, k205, k206, k207, k208, k209, k210]
        clear k2
        clear k184
        clear k185
        clear k186
        clear k187
        clear k188
        clear k189
        clear k190
        clear k191
        clear k192
        clear k193
        clear k194
        clear k195
        clear k196
        clear k197
        clear k198
        clear k199
        clear k200
        clear k201
        clear k202
        clear k203
        clear k204
        clear k205
        clear k206
        clear k207
        clear k208
        clear k209
        clear k210
        refine Rg.nil_list ?_
        go_wp2
        go_ret
        exact ⟨rfl, hT.ext0.trans' hR⟩
end Go.Proofs.Ytlblgopfdadalaa
namespace Go.Proofs.Ytlblgopfdadalaa.storeAll
set_option linter.unusedVariables false
set_option linter.unusedSimpArgs false
set_option linter.unnecessarySimpa false
set_option maxRecDepth 100000
open Go.ChangeShapes Go.WideShapes Go.ChangeAt Go.RowKit
open Go.ChangeMaps (open_string shut_string)
set_option maxRecDepth 100000 in
set_option maxHeartbeats 2000000 in
theorem lifted (os : Os) (started : os.Started) (H : Type) (enc : TypeId × Value → H) :
    ReturnsInHanded {} Try.checked os 4 .any (Rows.storeAllSpec.pre6 enc Try.prog Try.f4 Rows.storeAllRow.domain false) (Rows.storeAllSpec.post enc Try.prog Try.f4 false true false false) := by
  refine returnsInHanded_of_change (C := Try.checked) own started (by kernel_rfl) Try.func4
    (ChangeSpec.witness6 (enc := enc) (C := Try.checked) false ⟨#[], #[.slice none 0 0], []⟩ 8 (by kernel_rfl) (by kernel_rfl) (by kernel_rfl) (by kernel_rfl)) ?_
  intro W base args ds gs before hval0 hW hcnd _
  have hval : ∀ (j : Nat) t v, Try.f4.params[j]? = some t → args[j]? = some v → Value.okWide Try.prog W .any base t v := hval0
  have hW' := hW
  obtain ⟨p, q, hA0, hV, rfl, hfz, hnd⟩ := hW
  have hA : DataW.TrodAll enc Try.prog W 0 (fun _ => true) true Try.f4.params.toList args.toList ds p := hA0
  rw [Try.params4] at hA hval
  obtain ⟨v0, vs0, d0, ds0, p0, q0, hargs, rfl, rfl, h0, r0⟩ := trodAll_cons hA
  obtain ⟨rfl, rfl, rfl⟩ := trodAll_nil r0
  obtain rfl : args = #[v0] := by cases args; simp_all
  obtain ⟨rfl, rfl⟩ := trodVars_none hV
  have k0 := h0
  have lt0 : ∀ x ∈ p0, x.block < W.heap.size := by obtain ⟨m, hm⟩ := k0; exact DataW.trod_lt m _ _ _ hm
  obtain ⟨a0, len0, cap0, rfl⟩ := okWide_slice Try.underlying43 (hval 0 43 v0 rfl rfl)
  obtain ⟨b0, hb0⟩ : ∃ b, Enc.Sl sopE W noneAt (.slice a0 len0 cap0) b := by
    obtain ⟨fuel, hf⟩ := h0
    obtain ⟨b, v, hv, hs⟩ := (Enc.opens_slice Try.underlying43 (by kernel_rfl) (by decide) sopE_opens) _ enc W fuel _ _ hf
    obtain rfl : Value.slice a0 len0 cap0 = v := by simpa [Value.cells] using hv
    exact ⟨b, hs⟩
  clear hA0 hval0
  refine (storeAll_walk _ b0 W hb0).mono fun e W' ⟨he, bel⟩ => ?_
  subst he
  exact ⟨_, rfl, _, _, _, [], _, [], hW', trodAll_mk1 (shut_bool Try.underlying4 _), (trodAll_cons_mk (Below.trod laidOut (by kernel_rfl) (of_decide_eq_true (by kernel_rfl)) k0 bel lt0) trodAll_mk0), rfl, bel.frame _, fun h => by cases h⟩
theorem over : Rows.storeAllRow.holds Try.pinned (OpenSpec.ofChange Rows.storeAllSpec) :=
  OpenClaim.holds_of_wide 4 Try.f4 rfl rfl rfl rfl rfl rfl rfl ⟨rfl, rfl, rfl, rfl, rfl⟩ rfl rfl rfl rfl rfl (by kernel_rfl) Try.func4 (by kernel_rfl)
    (of_decide_eq_true (by kernel_rfl)) (by unfold Func.isWrapper; first | (rw [if_pos (by decide +kernel)]; kernel_rfl) | (rw [if_neg (by decide +kernel)]; exact ⟨rfl, rfl⟩))
    (fun os started H enc _ => lifted os started H enc)
/-- THE STATEMENT -/
theorem proved : Rows.StoreAllSaid := over
#print axioms proved
end Go.Proofs.Ytlblgopfdadalaa.storeAll
