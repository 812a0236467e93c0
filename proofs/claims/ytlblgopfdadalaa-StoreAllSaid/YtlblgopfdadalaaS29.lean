/- A part of the proof of 'StoreAll'. -/
import Derived.Test.YtlblgopfdadalaaS28
namespace Go.Proofs.Ytlblgopfdadalaa
set_option linter.unusedVariables false
set_option linter.unusedSimpArgs false
set_option linter.unnecessarySimpa false
set_option maxRecDepth 100000
open Go.RowKit
set_option maxHeartbeats 3200000 in
theorem ref_append (g : Nat) (v y : Value) (d : Dk) (m : Bytes) (w : World) (h : RefAt w g v d) (hy : Bs w y m) (ho : Off y [g]) (hl : (m.length : Int) ≤ 140737488355328) :
    Calls Try.prog 66 #[.pointer (some ⟨g, 0, none⟩), y] w fun e w' => RetRef w w' e g v (d.rop (d.b.length + m.length) (Dk.app m) (Dk.app m)) := by
  obtain ⟨A, c, rfl, -, -, -⟩ := id h.bs
  obtain ⟨A2, c2, rfl, -, -, -⟩ := id hy
  obtain ⟨c0, c1, c2', c3, c4, c5⟩ := h.cells
  have hs2 := h.ok.s2
  have hgl := h.blk.lt
  have e1 : IntKind.i64.wrap ((d.b.length : Int) + m.length) = (d.b.length : Int) + m.length := IntWalk.i64_in _ (by omega)
  by_cases hd : d.de = true
  · have E : Hid (d.rop (d.b.length + m.length) (Dk.app m) (Dk.app m) = (d, 16)) := if_pos hd
    rw [hd] at c5
    clear hd
    go_enter Try.func66, Try.ntmps66
    go_wp2
    go_ret
    unfold RetRef
    rw [E.out]
    exact ⟨rfl, .same h⟩
  · have hd' : d.de = false := by simpa using hd
    rw [hd'] at c5
    by_cases hb : 200000 < (d.b.length : Int) + m.length
    · have E : Hid (d.rop (d.b.length + m.length) (Dk.app m) (Dk.app m) = (d, 12)) := by unfold Hid Dk.rop; rw [if_neg hd, if_pos hb]
      clear hd hd'
      go_enter Try.func66, Try.ntmps66
      go_wp2
      go_ret
      unfold RetRef
      rw [E.out]
      exact ⟨rfl, .same h⟩
    · have hb' : (d.b.length : Int) + m.length ≤ 200000 := by omega
      by_cases ha : d.ar = true
      · by_cases hz : d.at_ = 0
        · have E : Hid (d.rop (d.b.length + m.length) (Dk.app m) (Dk.app m) = ((Dk.app m { d with at_ := d.at_ - 1 }).crash d.pt, 16)) := by unfold Hid Dk.rop; rw [if_neg hd, if_neg hb, if_pos ha, if_pos hz]; rfl
          have HC := hide (ref_cut_yes g _ d w h ha hz)
          have HZ : Hid (d.at_ - 1 = -1) := by unfold Hid; omega
          clear hd hd' ha hz hb
          go_enter Try.func66, Try.ntmps66
          go_wp2_with fail
          refine HC.out.mono ?_
          rintro e w1 ⟨rfl, hw1⟩
          have hb1 : Blk w1 g 48 (rcells (.slice A d.b.length c) { d with at_ := -1 }) := by rw [hw1]; exact h.blk.set_ 2 _
          have hc1 : Chg [g] w w1 := by rw [hw1]; exact (Chg.refl [g] _).set (by simp) _
          have hbs1 := h.bs.chg hc1 h.off
          have hg1 := hb1.lt
          clear hw1 c0 c1 c2' c3 c4 c5
          have hb0 : Blk (w1.alloc (.cells #[] 5)) g 48 (rcells (.slice A d.b.length c) { d with at_ := -1 }) := hb1.alloc _
          have c0' : (w1.alloc (.cells #[] 5)).cell? ⟨g, 0, none⟩ = some (.slice A d.b.length c) := (hb0.cell 0).trans rfl
          have hx0 : Ext w1 (w1.alloc (.cells #[] 5)) := (Ext.rfl' _).alloc' _
          have hbs0 := hbs1.ext hx0
          have hyw := hy.chg hc1 ho
          go_wp2_with (first | (at_builtin; refine wpList_appA w1 _ rfl (.tmp 22) (.tmp 26) rfl _ [] rfl (App0.lit (Ext.rfl' _) _ rfl _).app hx0 _ d.b rfl hbs0 (by simp <;> omega) ?_; intro n5 A5 c5 w5 hn5 hap5 hx5 hsm5; obtain rfl : n5 = d.b := hn5.out) | (at_builtin; refine wpList_appA w1 _ rfl (.tmp 27) (.tmp 28) rfl _ d.b rfl (by assumption) (by assumption) _ m rfl (hyw.ext (by assumption)) (by omega) ?_; intro n6 A6 c6 w6 hn6 hap6 hx6 hsm6; have hb6 := hb1.ext hx6; have z0 := hb6.frozen 0; have y0 := (hb6.cell 0).trans rfl; have y3 := ((hb6.set_ 0 (.slice A6 n6.length c6)).cell 3).trans rfl))
          have hx6g : w1.heap.size ≤ w6.heap.size := hx6.size
          have hn6' : n6 = (Dk.app m { d with at_ := -1 }).b := hn6.out
          subst hn6'
          have hop := hap6.off (S := [g]) (by simp; exact hg1)
          have hln : (Dk.app m d).b.length = d.b.length + m.length := by simp [Dk.app]
          refine (ref_crash g _ (Dk.app m { d with at_ := -1 }) d.pt _ ⟨hb6.set_ 0 _, hap6.bs.chg ((Chg.refl [g] _).set (by simp) _) hop, hop, ⟨h.ok.s0, by have := h.ok.s1; show d.sy ≤ ((Dk.app m d).b.length : Int); omega, by show ((Dk.app m d).b.length : Int) ≤ _; omega, by show (-9223372036854775808 : Int) ≤ -1; decide, by show (-1 : Int) ≤ 9223372036854775807; decide, h.ok.p0, h.ok.p1⟩⟩ ⟨h.ok.p0, h.ok.p1⟩).mono ?_
          rintro e w7 ⟨rfl, h7⟩
          go_wp2
          go_ret
          unfold RetRef
          rw [E.out, HZ.out]
          refine ⟨rfl, .trans (v1 := .slice A6 (Dk.app m { d with at_ := -1 }).b.length c6) ((hc1.trans (hx6.chg _)).set (by simp) _) (fun k hk => .inr ?_) h7⟩
          have := hap6.own_lt k hk
          have := hc1.size
          simp [World.setCell]
          omega
        · have E : Hid (d.rop (d.b.length + m.length) (Dk.app m) (Dk.app m) = (Dk.app m { d with at_ := d.at_ - 1 }, 0)) := by unfold Hid Dk.rop; rw [if_neg hd, if_neg hb, if_pos ha, if_neg hz]
          have HC := hide (ref_cut_go g _ d w h ha hz)
          clear hd hd' ha hz hb
          go_enter Try.func66, Try.ntmps66
          go_wp2_with fail
          refine HC.out.mono ?_
          rintro e w1 ⟨rfl, v1, h1, hc1, hn1⟩
          obtain ⟨A, c, rfl, -, -, -⟩ := id h1.bs
          have hb1 := h1.blk
          have hg1 := hb1.lt
          clear c0 c1 c2' c3 c4 c5
          have hb0 : Blk (w1.alloc (.cells #[] 5)) g 48 (rcells (.slice A d.b.length c) { d with at_ := d.at_ - 1 }) := hb1.alloc _
          have c0' : (w1.alloc (.cells #[] 5)).cell? ⟨g, 0, none⟩ = some (.slice A d.b.length c) := (hb0.cell 0).trans rfl
          have hx0 : Ext w1 (w1.alloc (.cells #[] 5)) := (Ext.rfl' _).alloc' _
          have hbs0 := h1.bs.ext hx0
          have hyw := hy.chg hc1 ho
          go_wp2_with (first | (at_builtin; refine wpList_appA w1 _ rfl (.tmp 22) (.tmp 26) rfl _ [] rfl (App0.lit (Ext.rfl' _) _ rfl _).app hx0 _ d.b rfl hbs0 (by simp <;> omega) ?_; intro n5 A5 c5 w5 hn5 hap5 hx5 hsm5; obtain rfl : n5 = d.b := hn5.out) | (at_builtin; refine wpList_appA w1 _ rfl (.tmp 27) (.tmp 28) rfl _ d.b rfl (by assumption) (by assumption) _ m rfl (hyw.ext (by assumption)) (by omega) ?_; intro n6 A6 c6 w6 hn6 hap6 hx6 hsm6; have hb6 := hb1.ext hx6; have z0 := hb6.frozen 0; have y0 := (hb6.cell 0).trans rfl; have y3 := ((hb6.set_ 0 (.slice A6 n6.length c6)).cell 3).trans rfl))
          have hn6' : n6 = (Dk.app m { d with at_ := d.at_ - 1 }).b := hn6.out
          subst hn6'
          have hop := hap6.off (S := [g]) (by simp; exact hg1)
          go_ret
          unfold RetRef
          rw [E.out]
          refine ⟨rfl, .slice A6 (Dk.app m { d with at_ := d.at_ - 1 }).b.length c6, ⟨hb6.set_ 0 _, hap6.bs.chg ((Chg.refl [g] _).set (by simp) _) hop, hop, Dk.app_ok h1.ok m hb'⟩, (hc1.trans (hx6.chg _)).set (by simp) _, fun k hk => .inr ?_⟩
          have := hap6.own_lt k hk
          have := hc1.size
          simp [World.setCell]
          omega
      · have E : Hid (d.rop (d.b.length + m.length) (Dk.app m) (Dk.app m) = (Dk.app m d, 0)) := by unfold Hid Dk.rop; rw [if_neg hd, if_neg hb, if_neg ha]
        have HC := hide (ref_cut_no g _ d w h (by simpa using ha))
        clear hd hd' ha hb
        go_enter Try.func66, Try.ntmps66
        go_wp2_with fail
        refine HC.out.mono ?_
        rintro e w1 ⟨rfl, rfl⟩
        clear c0 c1 c2' c3 c4 c5
        have hb0 : Blk (w.alloc (.cells #[] 5)) g 48 (rcells (.slice A d.b.length c) d) := h.blk.alloc _
        have c0' : (w.alloc (.cells #[] 5)).cell? ⟨g, 0, none⟩ = some (.slice A d.b.length c) := (hb0.cell 0).trans rfl
        have hx0 : Ext w (w.alloc (.cells #[] 5)) := (Ext.rfl' _).alloc' _
        have hbs0 := h.bs.ext hx0
        have hyw := hy
        go_wp2_with (first | (at_builtin; refine wpList_appA w _ rfl (.tmp 22) (.tmp 26) rfl _ [] rfl (App0.lit (Ext.rfl' _) _ rfl _).app hx0 _ d.b rfl hbs0 (by simp <;> omega) ?_; intro n5 A5 c5 w5 hn5 hap5 hx5 hsm5; obtain rfl : n5 = d.b := hn5.out) | (at_builtin; refine wpList_appA w _ rfl (.tmp 27) (.tmp 28) rfl _ d.b rfl (by assumption) (by assumption) _ m rfl (hyw.ext (by assumption)) (by omega) ?_; intro n6 A6 c6 w6 hn6 hap6 hx6 hsm6; have hb6 := h.blk.ext hx6; have z0 := hb6.frozen 0; have y0 := (hb6.cell 0).trans rfl; have y3 := ((hb6.set_ 0 (.slice A6 n6.length c6)).cell 3).trans rfl))
        have hn6' : n6 = (Dk.app m d).b := hn6.out
        subst hn6'
        have hop := hap6.off (S := [g]) (by simp; exact hgl)
        go_ret
        unfold RetRef
        rw [E.out]
        refine ⟨rfl, .slice A6 (Dk.app m d).b.length c6, ⟨hb6.set_ 0 _, hap6.bs.chg ((Chg.refl [g] _).set (by simp) _) hop, hop, Dk.app_ok h.ok m hb'⟩, (hx6.chg _).set (by simp) _, fun k hk => .inr ?_⟩
        have := hap6.own_lt k hk
        simp [World.setCell]
        omega
set_option maxHeartbeats 3200000 in
theorem ref_sync (g : Nat) (v : Value) (d : Dk) (w : World) (h : RefAt w g v d) :
    Calls Try.prog 67 #[.pointer (some ⟨g, 0, none⟩)] w fun e w' => RetRef w w' e g v (d.rop 0 Dk.last id) := by
  obtain ⟨A, c, rfl, -, -, -⟩ := id h.bs
  obtain ⟨c0, c1, c2', c3, c4, c5⟩ := h.cells
  have hs2 := h.ok.s2
  by_cases hd : d.de = true
  · have E : Hid (d.rop 0 Dk.last id = (d, 16)) := if_pos hd
    rw [hd] at c5
    clear hd
    go_enter Try.func67, Try.ntmps67
    go_wp2
    go_ret
    unfold RetRef
    rw [E.out]
    exact ⟨rfl, .same h⟩
  · have hd' : d.de = false := by simpa using hd
    rw [hd'] at c5
    by_cases ha : d.ar = true
    · by_cases hz : d.at_ = 0
      · have E : Hid (d.rop 0 Dk.last id = (Dk.crash { d with at_ := d.at_ - 1 } d.pt, 16)) := by unfold Hid Dk.rop; rw [if_neg hd, if_neg (by decide), if_pos ha, if_pos hz]; rfl
        have HC := hide (ref_cut_yes g _ d w h ha hz)
        have HZ : Hid (d.at_ - 1 = -1) := by unfold Hid; omega
        clear hd hd' ha hz
        go_enter Try.func67, Try.ntmps67
        go_wp2_with fail
        refine HC.out.mono ?_
        rintro e w1 ⟨rfl, hw1⟩
        have hb1 : Blk w1 g 48 (rcells (.slice A d.b.length c) { d with at_ := -1 }) := by rw [hw1]; exact h.blk.set_ 2 _
        have hc1 : Chg [g] w w1 := by rw [hw1]; exact (Chg.refl [g] _).set (by simp) _
        have hsz : w.heap.size ≤ w1.heap.size := hc1.size
        have y3 := (hb1.cell 3).trans rfl
        clear hw1 c0 c1 c2' c3 c4 c5
        go_wp2_with fail
        refine (ref_crash g _ { d with at_ := -1 } d.pt _ ⟨hb1, h.bs.chg hc1 h.off, h.off, ⟨h.ok.s0, h.ok.s1, h.ok.s2, by show (-9223372036854775808 : Int) ≤ -1; decide, by show (-1 : Int) ≤ 9223372036854775807; decide, h.ok.p0, h.ok.p1⟩⟩ ⟨h.ok.p0, h.ok.p1⟩).mono ?_
        rintro e w7 ⟨rfl, h7⟩
        go_wp2
        go_ret
        unfold RetRef
        rw [E.out, HZ.out]
        exact ⟨rfl, .trans hc1 (fun k hk => .inl hk) h7⟩
      · have E : Hid (d.rop 0 Dk.last id = (Dk.last { d with at_ := d.at_ - 1 }, 0)) := by unfold Hid Dk.rop; rw [if_neg hd, if_neg (by decide), if_pos ha, if_neg hz]
        have HC := hide (ref_cut_go g _ d w h ha hz)
        clear hd hd' ha hz
        go_enter Try.func67, Try.ntmps67
        go_wp2_with fail
        refine HC.out.mono ?_
        rintro e w1 ⟨rfl, v1, h1, hc1, hn1⟩
        obtain ⟨A, c, rfl, -, -, -⟩ := id h1.bs
        clear c0 c1 c2' c3 c4 c5
        obtain ⟨c0, c1, c2', c3, c4, c5⟩ := h1.cells
        have f1 := h1.free 1
        have hn1' := hide hn1
        clear hn1
        go_wp2
        go_ret
        unfold RetRef
        rw [E.out]
        exact ⟨rfl, _, ⟨h1.blk.set_ 1 _, h1.bs.chg ((Chg.refl [g] _).set (by simp) _) h1.off, h1.off, Dk.last_ok h1.ok⟩, hc1.set (by simp) _, fun k hk => by have := hn1'.out k hk; simpa [World.setCell] using this⟩
    · have E : Hid (d.rop 0 Dk.last id = (Dk.last d, 0)) := by unfold Hid Dk.rop; rw [if_neg hd, if_neg (by decide), if_neg ha]
      have HC := hide (ref_cut_no g _ d w h (by simpa using ha))
      clear hd hd' ha
      have f1 := h.free 1
      go_enter Try.func67, Try.ntmps67
      go_wp2_with fail
      refine HC.out.mono ?_
      rintro e w1 ⟨rfl, rfl⟩
      go_wp2
      go_ret
      unfold RetRef
      rw [E.out]
      exact ⟨rfl, _, ⟨h.blk.set_ 1 _, h.bs.chg ((Chg.refl [g] _).set (by simp) _) h.off, h.off, Dk.last_ok h.ok⟩, (Chg.refl [g] _).set (by simp) _, fun k hk => .inl hk⟩
set_option maxHeartbeats 3200000 in
theorem ref_replace (g : Nat) (v y : Value) (d : Dk) (m : Bytes) (w : World) (h : RefAt w g v d) (hy : Bs w y m) (ho : Off y [g]) (hl : (m.length : Int) ≤ 140737488355328) :
    Calls Try.prog 56 #[.pointer (some ⟨g, 0, none⟩), y] w fun e w' => RetRef w w' e g v (d.rop m.length (Dk.repl m) id) := by
  obtain ⟨A, c, rfl, -, -, -⟩ := id h.bs
  obtain ⟨A2, c2, rfl, -, -, -⟩ := id hy
  obtain ⟨c0, c1, c2', c3, c4, c5⟩ := h.cells
  have hgl := h.blk.lt
  by_cases hd : d.de = true
  · have E : Hid (d.rop m.length (Dk.repl m) id = (d, 16)) := if_pos hd
    rw [hd] at c5
    clear hd
    go_enter Try.func56, Try.ntmps56
    go_wp2
    go_ret
    unfold RetRef
    rw [E.out]
    exact ⟨rfl, .same h⟩
  · have hd' : d.de = false := by simpa using hd
    rw [hd'] at c5
    by_cases hb : 200000 < (m.length : Int)
    · have E : Hid (d.rop m.length (Dk.repl m) id = (d, 12)) := by unfold Hid Dk.rop; rw [if_neg hd, if_pos hb]
      clear hd hd'
      go_enter Try.func56, Try.ntmps56
      go_wp2
      go_ret
      unfold RetRef
      rw [E.out]
      exact ⟨rfl, .same h⟩
    · have hb' : (m.length : Int) ≤ 200000 := by omega
      by_cases ha : d.ar = true
      · by_cases hz : d.at_ = 0
        · have E : Hid (d.rop m.length (Dk.repl m) id = (Dk.crash { d with at_ := d.at_ - 1 } d.pt, 16)) := by unfold Hid Dk.rop; rw [if_neg hd, if_neg hb, if_pos ha, if_pos hz]; rfl
          have HC := hide (ref_cut_yes g _ d w h ha hz)
          have HZ : Hid (d.at_ - 1 = -1) := by unfold Hid; omega
          clear hd hd' ha hz hb
          go_enter Try.func56, Try.ntmps56
          go_wp2_with fail
          refine HC.out.mono ?_
          rintro e w1 ⟨rfl, hw1⟩
          have hb1 : Blk w1 g 48 (rcells (.slice A d.b.length c) { d with at_ := -1 }) := by rw [hw1]; exact h.blk.set_ 2 _
          have hc1 : Chg [g] w w1 := by rw [hw1]; exact (Chg.refl [g] _).set (by simp) _
          have hsz : w.heap.size ≤ w1.heap.size := hc1.size
          have y3 := (hb1.cell 3).trans rfl
          clear hw1 c0 c1 c2' c3 c4 c5
          go_wp2_with fail
          refine (ref_crash g _ { d with at_ := -1 } d.pt _ ⟨hb1, h.bs.chg hc1 h.off, h.off, ⟨h.ok.s0, h.ok.s1, h.ok.s2, by show (-9223372036854775808 : Int) ≤ -1; decide, by show (-1 : Int) ≤ 9223372036854775807; decide, h.ok.p0, h.ok.p1⟩⟩ ⟨h.ok.p0, h.ok.p1⟩).mono ?_
          rintro e w7 ⟨rfl, h7⟩
          go_wp2
          go_ret
          unfold RetRef
          rw [E.out, HZ.out]
          exact ⟨rfl, .trans hc1 (fun k hk => .inl hk) h7⟩
        · have E : Hid (d.rop m.length (Dk.repl m) id = (Dk.repl m { d with at_ := d.at_ - 1 }, 0)) := by unfold Hid Dk.rop; rw [if_neg hd, if_neg hb, if_pos ha, if_neg hz]
          have HC := hide (ref_cut_go g _ d w h ha hz)
          clear hd hd' ha hz hb
          go_enter Try.func56, Try.ntmps56
          go_wp2_with fail
          refine HC.out.mono ?_
          rintro e w1 ⟨rfl, v1, h1, hc1, hn1⟩
          have hg1 := h1.blk.lt
          clear c0 c1 c2' c3 c4 c5 hn1
          have hb0 : Blk (w1.alloc (.cells #[] 5)) g 48 (rcells v1 { d with at_ := d.at_ - 1 }) := h1.blk.alloc _
          have hx0 : Ext w1 (w1.alloc (.cells #[] 5)) := (Ext.rfl' _).alloc' _
          have hyw := hy.chg hc1 ho
          have hyw0 := hyw.ext hx0
          go_wp2_with (at_builtin; refine wpList_appA w1 _ rfl (.tmp 21) (.tmp 22) rfl _ [] rfl (App0.lit (Ext.rfl' _) _ rfl _).app hx0 _ m rfl hyw0 (by simp <;> omega) ?_; intro n5 A5 c5' w5 hn5 hap5 hx5 hsm5; obtain rfl : n5 = m := hn5.out; have hb6 := h1.blk.ext hx5; have z0 := hb6.frozen 0; have y0 := (hb6.cell 0).trans rfl; have z1 := hb6.frozen 1; have y1 := (hb6.cell 1).trans rfl)
          have hop := hap5.off (S := [g]) (by simp; exact hg1)
          go_ret
          unfold RetRef
          rw [E.out]
          refine ⟨rfl, .slice A5 n5.length c5', ⟨(hb6.set_ 0 _).set_ 1 _, hap5.bs.chg (((Chg.refl [g] _).set (by simp) _).set (by simp) _) hop, hop, Dk.repl_ok h1.ok n5 hb'⟩, ((hc1.trans (hx5.chg _)).set (by simp) _).set (by simp) _, fun k hk => .inr ?_⟩
          have := hap5.own_lt k hk
          have := hc1.size
          simp [World.setCell]
          omega
      · have E : Hid (d.rop m.length (Dk.repl m) id = (Dk.repl m d, 0)) := by unfold Hid Dk.rop; rw [if_neg hd, if_neg hb, if_neg ha]
        have HC := hide (ref_cut_no g _ d w h (by simpa using ha))
        clear hd hd' ha hb
        go_enter Try.func56, Try.ntmps56
        go_wp2_with fail
        refine HC.out.mono ?_
        rintro e w1 ⟨rfl, rfl⟩
        clear c0 c1 c2' c3 c4 c5
        have hb0 : Blk (w.alloc (.cells #[] 5)) g 48 (rcells (.slice A d.b.length c) d) := h.blk.alloc _
        have hx0 : Ext w (w.alloc (.cells #[] 5)) := (Ext.rfl' _).alloc' _
        have hyw := hy
        have hyw0 := hyw.ext hx0
        go_wp2_with (at_builtin; refine wpList_appA w _ rfl (.tmp 21) (.tmp 22) rfl _ [] rfl (App0.lit (Ext.rfl' _) _ rfl _).app hx0 _ m rfl hyw0 (by simp <;> omega) ?_; intro n5 A5 c5' w5 hn5 hap5 hx5 hsm5; obtain rfl : n5 = m := hn5.out; have hb6 := h.blk.ext hx5; have z0 := hb6.frozen 0; have y0 := (hb6.cell 0).trans rfl; have z1 := hb6.frozen 1; have y1 := (hb6.cell 1).trans rfl)
        have hop := hap5.off (S := [g]) (by simp; exact hgl)
        go_ret
        unfold RetRef
        rw [E.out]
        refine ⟨rfl, .slice A5 n5.length c5', ⟨(hb6.set_ 0 _).set_ 1 _, hap5.bs.chg (((Chg.refl [g] _).set (by simp) _).set (by simp) _) hop, hop, Dk.repl_ok h.ok n5 hb'⟩, ((hx5.chg _).set (by simp) _).set (by simp) _, fun k hk => .inr ?_⟩
        have := hap5.own_lt k hk
        simp [World.setCell]
        omega
end Go.Proofs.Ytlblgopfdadalaa
namespace Go.Proofs.Ytlblgopfdadalaa
set_option linter.unusedVariables false
set_option linter.unusedSimpArgs false
set_option linter.unnecessarySimpa false
set_option maxRecDepth 100000
open Go.RowKit
theorem Eqv.crash {d r : Dk} (h : Eqv d r) (p : Int) : Eqv (d.crash p) (r.crash p) := by
  obtain ⟨h1, h2, h3, h4, h5, h6⟩ := h
  refine ⟨?_, h2, rfl, rfl, h5, fun h => by cases h⟩
  simp only [Dk.crash, Dk.cut, Dk.left, h1, h2]
theorem Eqv.power {d r : Dk} (h : Eqv d r) : Eqv d.power r.power := ⟨h.b, by show (d.b.length : Int) = _; rw [h.b]; rfl, h.ar, rfl, h.pt, h.at_⟩
theorem Eqv.last {d r : Dk} (h : Eqv d r) : Eqv d.last r.last := ⟨h.b, by show (d.b.length : Int) = _; rw [h.b]; rfl, h.ar, h.de, h.pt, h.at_⟩
theorem Eqv.arm {d r : Dk} (h : Eqv d r) (a p : Int) : Eqv (d.arm a p) (r.arm a p) := ⟨h.b, h.sy, rfl, h.de, rfl, fun _ => rfl⟩
theorem Eqv.app {d r : Dk} (h : Eqv d r) (m : Bytes) : Eqv (d.app m) (r.app m) := ⟨by show d.b ++ m = r.b ++ m; rw [h.b], h.sy, h.ar, h.de, h.pt, h.at_⟩
theorem Eqv.repl {d r : Dk} (h : Eqv d r) (m : Bytes) : Eqv (d.repl m) (r.repl m) := ⟨rfl, rfl, h.ar, h.de, h.pt, h.at_⟩
theorem Eqv.op {d r : Dk} (h : Eqv d r) (size : Int) (whole half : Dk → Dk) (hw : ∀ d r, Eqv d r → Eqv (whole d) (whole r)) (hh : ∀ d r : Dk, d.b = r.b → d.sy = r.sy → d.pt = r.pt → Eqv ((half d).crash (half d).pt) ((half r).crash (half r).pt)) :
    (d.op size whole half).2 = (r.rop size whole half).2 ∧ Eqv (d.op size whole half).1 (r.rop size whole half).1 := by
  unfold Dk.op Dk.rop
  rw [h.de]
  by_cases h1 : r.de = true
  · rw [if_pos h1, if_pos h1]; exact ⟨rfl, h⟩
  · rw [if_neg h1, if_neg h1]
    by_cases h2 : 200000 < size
    · rw [if_pos h2, if_pos h2]; exact ⟨rfl, h⟩
    · rw [if_neg h2, if_neg h2]
      by_cases h3 : d.ar = true
      · have h4 := h.at_ h3
        have h5 : r.ar = true := by rw [← h.ar]; exact h3
        rw [if_pos h5]
        by_cases h6 : d.at_ = 0
        · rw [if_pos ⟨h3, h6⟩, if_pos (by rw [← h4]; exact h6)]
          exact ⟨rfl, hh _ _ h.b h.sy h.pt⟩
        · rw [if_neg (fun hc => h6 hc.2), if_pos h3, if_neg (by rw [← h4]; exact h6)]
          exact ⟨rfl, hw _ _ ⟨h.b, h.sy, h.ar, by first | exact h.de | rfl, h.pt, fun _ => by show d.at_ - 1 = r.at_ - 1; rw [h4]⟩⟩
      · have h5 : ¬ r.ar = true := by rw [← h.ar]; exact h3
        rw [if_neg (fun hc => h3 hc.1), if_neg h3, if_neg h5]
        exact ⟨rfl, hw _ _ h⟩
theorem crash_same (d r : Dk) (p : Int) (h1 : d.b = r.b) (h2 : d.sy = r.sy) (h3 : d.pt = r.pt) : Eqv (d.crash p) (r.crash p) := by
  refine ⟨?_, h2, rfl, rfl, h3, fun h => by cases h⟩
  simp only [Dk.crash, Dk.cut, Dk.left, h1, h2]
theorem Eqv.opApp {d r : Dk} (h : Eqv d r) (m : Bytes) (size : Int) : (d.op size (Dk.app m) (Dk.app m)).2 = (r.rop size (Dk.app m) (Dk.app m)).2 ∧ Eqv (d.op size (Dk.app m) (Dk.app m)).1 (r.rop size (Dk.app m) (Dk.app m)).1 :=
  h.op size _ _ (fun d r h => h.app m) fun d r h1 h2 h3 => by
    have : (Dk.app m d).pt = (Dk.app m r).pt := h3
    rw [this]
    exact crash_same _ _ _ (by show d.b ++ m = r.b ++ m; rw [h1]) h2 h3
theorem Eqv.opId {d r : Dk} (h : Eqv d r) (size : Int) (whole : Dk → Dk) (hw : ∀ d r, Eqv d r → Eqv (whole d) (whole r)) : (d.op size whole id).2 = (r.rop size whole id).2 ∧ Eqv (d.op size whole id).1 (r.rop size whole id).1 :=
  h.op size _ _ hw fun d r h1 h2 h3 => by
    show Eqv (d.crash d.pt) (r.crash r.pt)
    rw [h3]
    exact crash_same _ _ _ h1 h2 h3
end Go.Proofs.Ytlblgopfdadalaa
