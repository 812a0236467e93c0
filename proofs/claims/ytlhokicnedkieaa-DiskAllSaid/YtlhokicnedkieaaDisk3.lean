/- disk: Replace, Arm, Copy; a disk that is none. -/
import Derived.Test.YtlhokicnedkieaaDisk2
namespace Go.Proofs.Ytlhokicnedkieaa
set_option linter.unusedVariables false
set_option linter.unusedSimpArgs false
set_option linter.unnecessarySimpa false
set_option maxRecDepth 100000
open Go.RowKit
def Dk.repl (m : Bytes) (d : Dk) : Dk := { d with b := m, sy := m.length }
theorem Dk.repl_ok {d : Dk} (h : d.ok) (m : Bytes) (hl : (m.length : Int) ≤ 200000) : (d.repl m).ok :=
  ⟨by show (0 : Int) ≤ (m.length : Int); omega, Int.le_refl _, hl, h.a0, h.a1, h.p0, h.p1, h.r0⟩
theorem last_raw (g : Nat) (A : Option Addr) (n c : Nat) (u : Value) (w : World) (c0 : w.cell? ⟨g, 0, none⟩ = some (.slice A n c)) (c1 : w.cell? ⟨g, 1, none⟩ = some u) (f1 : w.frozen? ⟨g, 1, none⟩ = false) :
    Calls Try.prog 42 #[.pointer (some ⟨g, 0, none⟩)] w fun e w' => e = .returned (.tuple #[]) ∧ w' = w.setCell ⟨g, 1, none⟩ (.int .i64 n) := by
  go_enter Try.func42, Try.ntmps42
  go_wp2
  go_end0
  exact ⟨rfl, rfl⟩
set_option maxHeartbeats 1600000 in
theorem replace1_b (g n1 n2 : Nat) (v y : Value) (d : Dk) (m : Bytes) (w : World) (h : DiskAt w g v d) (h1 : Blk w n1 24 #[.pointer (some ⟨g, 0, none⟩)]) (h2 : Blk w n2 22 #[y]) (hy : Bs w y m) (hl : (m.length : Int) ≤ 200000) (hn : n1 ≠ g) :
    Calls Try.prog 46 #[.pointer (some ⟨n2, 0, none⟩), .pointer (some ⟨n1, 0, none⟩)] w fun e w' => e = .returned (.tuple #[]) ∧ DiskTo w w' g v (d.repl m) := by
  obtain ⟨A, c, rfl, -, -, -⟩ := id h.bs
  obtain ⟨A2, c2, rfl, -, -, -⟩ := id hy
  go_enter Try.func46, Try.ntmps46
  go_wp2
  refine Rg.regionT Try.checked.mixed 12 3 (by kernel_rfl) [
    (fun x_ _ => x_ = .pointer (some ⟨g, 0, none⟩)),
    (fun x_ _ => x_ = .slice A2 m.length c2),
    (fun z W => Nw w W z m)] (fun W => Ext w W) Ext rfl rfl rfl
    ?st (Ext.rfl' w).drew' ?ob ?en
  case st => exact ⟨fun _ _ _ h _ => h, fun _ _ _ h _ => h, fun _ _ _ h hx => own_ext h hx, trivial⟩
  case ob =>
    refine ⟨Rg.at_run [1] rfl ?_, ?_⟩
    · intro ρ W hR ⟨q1, _⟩
      replace q1 : ρ 1 = .pointer (some ⟨n1, 0, none⟩) := q1
      refine ⟨rfl, ?_⟩
      have hc := cell_box (h1.ext hR)
      exact Rg.run_ok (v := .pointer (some ⟨g, 0, none⟩)) (by simp [execOp, Rg.ev, go_sem, q1, hc]) ⟨rfl, hR, Ext.rfl' _⟩
    refine ⟨Rg.at_run [0] rfl ?_, ?_⟩
    · intro ρ W hR ⟨q0, _⟩
      replace q0 : ρ 0 = .pointer (some ⟨n2, 0, none⟩) := q0
      refine ⟨rfl, ?_⟩
      have hc := cell_box (h2.ext hR)
      exact Rg.run_ok (v := .slice A2 m.length c2) (by simp [execOp, Rg.ev, go_sem, q0, hc]) ⟨rfl, hR, Ext.rfl' _⟩
    refine ⟨Rg.at_run [3] rfl ?_, ?_⟩
    · intro ρ W hR ⟨q3, _⟩
      replace q3 : ρ 3 = .slice A2 m.length c2 := q3
      refine ⟨rfl, ?_⟩
      refine Rg.run_enter (by simp [execOp, Rg.ev, go_sem, q3]; exact ⟨⟨rfl, rfl⟩, rfl⟩) ?_
      refine (clone_b _ m _ (by omega) (hy.ext hR)).mono ?_
      rintro e w2 ⟨k, Ak, ck, hk, rfl, hz, hxx⟩
      have hk' := hk.out
      subst hk'
      exact ⟨_, rfl, hz.trans hR, hR.trans' hxx, hxx⟩
    trivial
  case en =>
    intro tm W hR hsz hk
    obtain ⟨l⟩ := tm
    replace hsz : l.length = 12 := hsz
    obtain ⟨u0, u1, u2, u3, u4, u5, u6, u7, u8, u9, u10, u11, rfl⟩ : ∃ u0 u1 u2 u3 u4 u5 u6 u7 u8 u9 u10 u11, l = [u0, u1, u2, u3, u4, u5, u6, u7, u8, u9, u10, u11] := by
      clear hk
      obtain ⟨u0, l0, e0, h0⟩ := Rg.cons_of hsz
      obtain ⟨u1, l1, e1, h1⟩ := Rg.cons_of h0
      obtain ⟨u2, l2, e2, h2⟩ := Rg.cons_of h1
      obtain ⟨u3, l3, e3, h3⟩ := Rg.cons_of h2
      obtain ⟨u4, l4, e4, h4⟩ := Rg.cons_of h3
      obtain ⟨u5, l5, e5, h5⟩ := Rg.cons_of h4
      obtain ⟨u6, l6, e6, h6⟩ := Rg.cons_of h5
      obtain ⟨u7, l7, e7, h7⟩ := Rg.cons_of h6
      obtain ⟨u8, l8, e8, h8⟩ := Rg.cons_of h7
      obtain ⟨u9, l9, e9, h9⟩ := Rg.cons_of h8
      obtain ⟨u10, l10, e10, h10⟩ := Rg.cons_of h9
      obtain ⟨u11, l11, e11, h11⟩ := Rg.cons_of h10
      exact ⟨u0, u1, u2, u3, u4, u5, u6, u7, u8, u9, u10, u11, by rw [e0, e1, e2, e3, e4, e5, e6, e7, e8, e9, e10, e11, List.eq_nil_of_length_eq_zero h11]⟩
    obtain rfl : u1 = .pointer (some ⟨n1, 0, none⟩) := hk 1
    obtain rfl : u2 = .pointer (some ⟨g, 0, none⟩) := hk 2
    have k4 : (fun z W => Nw w W z m) u4 W := hk 4
    clear hk hsz

    have hF := h.ext hR
    have b1 := cell_box (h1.ext hR)
    have b2 : (W.setCell ⟨g, 0, none⟩ u4).cell? ⟨n1, 0, none⟩ = some (.pointer (some ⟨g, 0, none⟩)) := cell_box (((h1.ext hR)).far hn u4)
    obtain ⟨e0, e1, -, -, -, -⟩ := hF.cells
    have g0 := hF.free 0
    have g1 := hF.free 1
    replace k4 : Nw w W u4 m := k4
    obtain ⟨A3, c3', rfl, -, -⟩ := own_slice (id k4)
    have hoff : Off (.slice A3 m.length c3') [g] := k4.off (by simp; exact h.blk.lt)
    go_wp2_with fail
    have hB := hF.blk.set_ 0 (.slice A3 m.length c3')
    refine (last_raw g A3 m.length c3' (.int .i64 d.sy) _ ((hB.cell 0).trans rfl) ((hB.cell 1).trans rfl) (hB.frozen 1)).mono ?_
    rintro e w2 ⟨rfl, rfl⟩
    go_wp2
    go_end0
    exact ⟨rfl, .slice A3 m.length c3', ⟨(hF.blk.set_ 0 _).set_ 1 _, k4.bs.chg (((Chg.refl [g] _).set (by simp) _).set (by simp) _) hoff, hoff, Dk.repl_ok h.ok m hl⟩, ((hR.chg [g]).set (by simp) _).set (by simp) _, fun k hk => .inr (by have := k4.lt k hk; simpa [World.setCell] using this)⟩
set_option maxHeartbeats 1600000 in
theorem disk_replace (g : Nat) (v y : Value) (d : Dk) (m : Bytes) (w : World) (h : DiskAt w g v d) (hy : Bs w y m) (ho : Off y [g]) (hl : (m.length : Int) ≤ 140737488355328) :
    Calls Try.prog 24 #[.pointer (some ⟨g, 0, none⟩), y] w fun e w' => RetDisk w w' e g v (d.op m.length (Dk.repl m) id) := by
  obtain ⟨A2, c2, rfl, -, -, -⟩ := id hy
  have h1 : Blk ((w.alloc (.cells #[.pointer (some ⟨g, 0, none⟩)] 24)).alloc (.cells #[.slice A2 m.length c2] 22)) w.heap.size 24 #[.pointer (some ⟨g, 0, none⟩)] := (Blk.new w _ _).alloc _
  have h2 : Blk ((w.alloc (.cells #[.pointer (some ⟨g, 0, none⟩)] 24)).alloc (.cells #[.slice A2 m.length c2] 22)) (w.heap.size + 1) 22 #[.slice A2 m.length c2] := by
    have := Blk.new (w.alloc (.cells #[.pointer (some ⟨g, 0, none⟩)] 24)) 22 #[.slice A2 m.length c2]
    simpa using this
  have h0 := (h.box (.cells #[.pointer (some ⟨g, 0, none⟩)] 24)).box (.cells #[.slice A2 m.length c2] 22)
  have hx0 : Ext w ((w.alloc (.cells #[.pointer (some ⟨g, 0, none⟩)] 24)).alloc (.cells #[.slice A2 m.length c2] 22)) := ((Ext.rfl' w).alloc' _).alloc' _
  have hgl := h.blk.lt
  go_enter Try.func24, Try.ntmps24
  go_wp2_with fail
  refine (writes_b g v d _ _ h0 (by omega) _ _ _ _ (Dk.repl m) id (by intro W; simp [callFunc, go_sem, Try.func46]; rfl) (by intro W; simp [callFunc, go_sem, Try.func47]; rfl)
    (hide fun hsz W1 v1 d1 hd hc hb => replace1_b g w.heap.size (w.heap.size + 1) v1 _ d1 m W1 hd (h1.chg hc (by simp; omega)) (h2.chg hc (by simp; omega)) ((hy.ext hx0).chg hc ho) hsz (by omega))
    (hide fun hsz W1 v1 d1 hd hc hb => replace2_b g v1 d1 W1 hd)).mono ?_
  rintro e w1 ⟨rfl, hd⟩
  go_wp2
  go_ret
  exact ⟨rfl, .trans (hx0.chg _) (fun k hk => .inl hk) hd⟩
theorem Dk.arm_ok {d : Dk} (h : d.ok) (a p : Int) (ha : -9223372036854775808 ≤ a ∧ a ≤ 9223372036854775807) (hp : -9223372036854775808 ≤ p ∧ p ≤ 9223372036854775807) : (d.arm a p).ok :=
  ⟨h.s0, h.s1, h.s2, ha.1, ha.2, hp.1, hp.2, fun h => by simpa [Dk.arm] using h⟩
set_option maxHeartbeats 1600000 in
theorem disk_arm (g : Nat) (v : Value) (d : Dk) (a p : Int) (w : World) (h : DiskAt w g v d) (ha : -9223372036854775808 ≤ a ∧ a ≤ 9223372036854775807) (hp : -9223372036854775808 ≤ p ∧ p ≤ 9223372036854775807) :
    Calls Try.prog 22 #[.pointer (some ⟨g, 0, none⟩), .int .i64 a, .int .i64 p] w fun e w' => e = .returned (.tuple #[]) ∧ DiskTo w w' g v (d.arm a p) := by
  obtain ⟨c0, c1, c2, c3, c4, c5⟩ := h.cells
  have f2 := h.free 2
  have f3 := h.free 3
  have f4 := h.free 4
  go_enter Try.func22, Try.ntmps22
  go_wp2
  go_end0
  exact ⟨rfl, v, ⟨((h.blk.set_ 2 _).set_ 3 _).set_ 4 _, h.bs.chg ((((Chg.refl [g] _).set (by simp) _).set (by simp) _).set (by simp) _) h.off, h.off, Dk.arm_ok h.ok a p ha hp⟩, (((Chg.refl [g] _).set (by simp) _).set (by simp) _).set (by simp) _, fun k hk => .inl hk⟩
def RetCopy (w w' : World) (e : Ending) (d : Dk) : Prop :=
  ∃ (g' : Nat) (v' : Value), e = .returned (.pointer (some ⟨g', 0, none⟩)) ∧ w.heap.size ≤ g' ∧ DiskAt w' g' v' d ∧ (∀ k, v'.ownBlock = some k → w.heap.size ≤ k ∧ k < w'.heap.size) ∧ Ext w w'
set_option maxHeartbeats 1600000 in
theorem disk_copy (g : Nat) (v : Value) (d : Dk) (w : World) (h : DiskAt w g v d) :
    Calls Try.prog 16 #[.pointer (some ⟨g, 0, none⟩)] w fun e w' => RetCopy w w' e d := by
  obtain ⟨A, c, rfl, -, -, -⟩ := id h.bs
  obtain ⟨c0, c1, c2, c3, c4, c5⟩ := h.cells
  have hgl := h.blk.lt
  have hs2 := h.ok.s2
  go_enter Try.func16, Try.ntmps16
  go_wp2_with fail
  refine (clone_b _ d.b _ (by omega) (h.bs.ext ((Ext.rfl' w).alloc' _))).mono ?_
  rintro e w1 ⟨k, Ak, ck, hk, rfl, hz, hx⟩
  have hk' := hk.out
  subst hk'
  have hB : Blk w1 w.heap.size 71 (dcells (.slice A d.b.length c) d) := (Blk.new w _ _).ext hx
  have f0 := hB.frozen 0
  have e0 : w1.cell? ⟨w.heap.size, 0, none⟩ = some (.slice A d.b.length c) := (hB.cell 0).trans rfl
  have hoff : Off (.slice Ak d.b.length ck) [w.heap.size] := hz.off (by simp)
  go_wp2
  go_ret
  exact ⟨w.heap.size, .slice Ak d.b.length ck, rfl, Nat.le_refl _, ⟨hB.set_ 0 _, hz.bs.chg ((Chg.refl [w.heap.size] _).set (by simp) _) hoff, hoff, h.ok⟩, fun k hk => by have := hz.lt k hk; simp [World.setCell] at this ⊢; omega, (((Ext.rfl' w).alloc' _).trans' hx).set' (Nat.le_refl _) _⟩
/-! ### a disk that is none -/
section
variable (w : World)
theorem none_arm (a p : Int) : Calls Try.prog 22 #[.pointer none, .int .i64 a, .int .i64 p] w fun e w' => e = .returned (.tuple #[]) ∧ w = w' := by
  go_enter Try.func22, Try.ntmps22
  go_wp2
  go_end0
  exact ⟨rfl, rfl⟩
theorem none_crash (p : Int) : Calls Try.prog 18 #[.pointer none, .int .i64 p] w fun e w' => e = .returned (.tuple #[]) ∧ w = w' := by
  go_enter Try.func18, Try.ntmps18
  go_wp2
  go_end0
  exact ⟨rfl, rfl⟩
theorem none_power : Calls Try.prog 19 #[.pointer none] w fun e w' => e = .returned (.tuple #[]) ∧ w = w' := by
  go_enter Try.func19, Try.ntmps19
  go_wp2
  go_end0
  exact ⟨rfl, rfl⟩
theorem none_read : Calls Try.prog 20 #[.pointer none] w fun e w' => e = .returned (.tuple #[.slice none 0 0, .int .i64 1]) ∧ w = w' := by
  go_enter Try.func20, Try.ntmps20
  go_wp2
  go_ret2
  exact ⟨rfl, rfl⟩
theorem none_synced : Calls Try.prog 17 #[.pointer none] w fun e w' => e = .returned (.int .i64 0) ∧ w = w' := by
  go_enter Try.func17, Try.ntmps17
  go_wp2
  go_ret
  exact ⟨rfl, rfl⟩
theorem none_size : Calls Try.prog 40 #[.pointer none] w fun e w' => e = .returned (.int .i64 0) ∧ w = w' := by
  go_enter Try.func40, Try.ntmps40
  go_wp2
  go_ret
  exact ⟨rfl, rfl⟩
theorem none_copy : Calls Try.prog 16 #[.pointer none] w fun e w' => e = .returned (.pointer none) ∧ w = w' := by
  go_enter Try.func16, Try.ntmps16
  go_wp2
  go_ret
  exact ⟨rfl, rfl⟩
theorem none_writes (size : Int) (x y : Value) : Calls Try.prog 39 #[.pointer none, .int .i64 size, x, y] w fun e w' => e = .returned (.int .i64 1) ∧ w = w' := by
  go_enter Try.func39, Try.ntmps39
  go_wp2
  go_ret
  exact ⟨rfl, rfl⟩
theorem none_sync : Calls Try.prog 15 #[.pointer none] w fun e w' => e = .returned (.int .i64 1) ∧ Ext w w' := by
  go_enter Try.func15, Try.ntmps15
  go_wp2_with fail
  refine (none_writes _ _ _ _).mono ?_
  rintro e w1 ⟨rfl, rfl⟩
  go_wp2
  go_ret
  exact ⟨rfl, (Ext.rfl' w).alloc' _⟩
theorem none_replace : Calls Try.prog 24 #[.pointer none, .slice none 0 0] w fun e w' => e = .returned (.int .i64 1) ∧ Ext w w' := by
  go_enter Try.func24, Try.ntmps24
  go_wp2_with fail
  refine (none_writes _ _ _ _).mono ?_
  rintro e w1 ⟨rfl, rfl⟩
  go_wp2
  go_ret
  exact ⟨rfl, ((Ext.rfl' w).alloc' _).alloc' _⟩
end
end Go.Proofs.Ytlhokicnedkieaa
