import Derived.Test.YtboncnlcomeahaaPk28
/- disk: Sync, Append, Replace and the rest. -/
namespace Go.Proofs.Ytboncnlcomeahaa
set_option linter.unusedVariables false
set_option linter.unusedSimpArgs false
set_option linter.unnecessarySimpa false
set_option maxRecDepth 100000
open Go.RowKit
theorem sync1_b (g n1 : Nat) (v : Value) (d : Dk) (w : World) (h : DiskAt w g v d) (h1 : Blk w n1 42 #[.pointer (some ⟨g, 0, none⟩)]) :
    Calls Try.prog 50 #[.pointer (some ⟨n1, 0, none⟩)] w fun e w' => e = .returned (.tuple #[]) ∧ DiskTo w w' g v d.last := by
  have b1 := cell_box h1
  go_enter Try.func50, Try.ntmps50
  go_wp2_with fail
  refine (disk_last g v d w h).mono ?_
  rintro e w1 ⟨rfl, hd⟩
  go_wp2
  go_end0
  exact ⟨rfl, hd⟩
theorem sync2_b (g : Nat) (v : Value) (d : Dk) (w : World) (h : DiskAt w g v d) :
    Calls Try.prog 52 #[] w fun e w' => e = .returned (.tuple #[]) ∧ DiskTo w w' g v (id d) := by
  go_enter Try.func52, Try.ntmps52
  go_wp2
  go_end0
  exact ⟨rfl, .same h⟩
theorem replace2_b (g : Nat) (v : Value) (d : Dk) (w : World) (h : DiskAt w g v d) :
    Calls Try.prog 67 #[] w fun e w' => e = .returned (.tuple #[]) ∧ DiskTo w w' g v (id d) := by
  go_enter Try.func67, Try.ntmps67
  go_wp2
  go_end0
  exact ⟨rfl, .same h⟩
theorem DiskAt.box {w : World} {g : Nat} {v : Value} {d : Dk} (h : DiskAt w g v d) (o : Obj) : DiskAt (w.alloc o) g v d := h.ext ((Ext.rfl' w).alloc' o)
theorem run_fn (F : Nat) (cap : Array Value) (h : ∀ W : World, (callFunc F cap).run Try.prog W = .ok (.enter F cap) W) : True := trivial
set_option maxHeartbeats 1600000 in
theorem disk_sync (g : Nat) (v : Value) (d : Dk) (w : World) (h : DiskAt w g v d) :
    Calls Try.prog 22 #[.pointer (some ⟨g, 0, none⟩)] w fun e w' => RetDisk w w' e g v (d.op 0 Dk.last id) := by
  have HW := fun (n1 : Nat) => hide (fun (W : World) (h1 : Blk W n1 42 #[.pointer (some ⟨g, 0, none⟩)]) (v1 : Value) (d1 : Dk) (hd : DiskAt W g v1 d1) => sync1_b g n1 v1 d1 W hd h1)
  go_enter Try.func22, Try.ntmps22
  go_wp2_with fail
  refine (writes_b g v d 0 _ (h.box _) (by omega) _ _ _ _ Dk.last id (by intro W; simp [callFunc, go_sem, Try.func50]; rfl) (by intro W; simp [callFunc, go_sem, Try.func52]; rfl)
    (hide fun _ W v1 d1 hd hc _ => sync1_b g _ v1 d1 W hd ((Blk.new w _ _).chg hc (by have := h.blk.lt; simp; omega)))
    (hide fun _ W v1 d1 hd hc _ => sync2_b g v1 d1 W hd)).mono ?_
  rintro e w1 ⟨rfl, hd⟩
  go_wp2
  go_ret
  exact ⟨rfl, .trans (((Ext.rfl' w).alloc' _).chg _) (fun k hk => .inl hk) hd⟩
set_option maxHeartbeats 1600000 in
theorem disk_append (g : Nat) (v y : Value) (d : Dk) (m : Bytes) (w : World) (h : DiskAt w g v d) (hy : Bs w y m) (ho : Off y [g]) (hl : (m.length : Int) ≤ 140737488355328) :
    Calls Try.prog 21 #[.pointer (some ⟨g, 0, none⟩), y] w fun e w' => RetDisk w w' e g v (d.op (d.b.length + m.length) (Dk.app m) (Dk.app m)) := by
  obtain ⟨A2, c2, rfl, -, -, -⟩ := id hy
  go_enter Try.func21, Try.ntmps21
  go_wp2
  have h1 : Blk ((w.alloc (.cells #[.pointer (some ⟨g, 0, none⟩)] 42)).alloc (.cells #[.slice A2 m.length c2] 28)) w.heap.size 42 #[.pointer (some ⟨g, 0, none⟩)] := (Blk.new w _ _).alloc _
  have h2 : Blk ((w.alloc (.cells #[.pointer (some ⟨g, 0, none⟩)] 42)).alloc (.cells #[.slice A2 m.length c2] 28)) (w.heap.size + 1) 28 #[.slice A2 m.length c2] := by
    have := Blk.new (w.alloc (.cells #[.pointer (some ⟨g, 0, none⟩)] 42)) 28 #[.slice A2 m.length c2]
    simpa using this
  have h0 := (h.box (.cells #[.pointer (some ⟨g, 0, none⟩)] 42)).box (.cells #[.slice A2 m.length c2] 28)
  have hx0 : Ext w ((w.alloc (.cells #[.pointer (some ⟨g, 0, none⟩)] 42)).alloc (.cells #[.slice A2 m.length c2] 28)) := ((Ext.rfl' w).alloc' _).alloc' _
  have hs0 : ((w.alloc (.cells #[.pointer (some ⟨g, 0, none⟩)] 42)).alloc (.cells #[.slice A2 m.length c2] 28)).heap.size = w.heap.size + 2 := by simp
  have hgl := h.blk.lt
  have hs2 := h.ok.s2
  generalize (w.alloc (.cells #[.pointer (some ⟨g, 0, none⟩)] 42)).alloc (.cells #[.slice A2 m.length c2] 28) = w0 at *
  refine Rg.regionT Try.checked.mixed 16 8 (by kernel_rfl) [
    (fun x_ _ => x_ = .pointer (some ⟨g, 0, none⟩)),
    (fun x_ _ => x_ = .pointer (some ⟨g, 0, none⟩)),
    (fun x_ _ => x_ = .int .i64 d.b.length),
    (fun x_ _ => x_ = .slice A2 m.length c2),
    (fun x_ _ => x_ = .int .i64 m.length),
    (fun x_ _ => x_ = .int .i64 (d.b.length + m.length)),
    (fun x_ _ => x_ = .func (.func 46) #[] #[.pointer (some ⟨w.heap.size, 0, none⟩), .pointer (some ⟨w.heap.size + 1, 0, none⟩)]),
    (fun x_ _ => x_ = .func (.func 46) #[] #[.pointer (some ⟨w.heap.size, 0, none⟩), .pointer (some ⟨w.heap.size + 1, 0, none⟩)])] (fun W => Ext w0 W) Ext rfl rfl rfl
    ?st (Ext.rfl' w0).drew' ?ob ?en
  case st => exact ⟨fun _ _ _ h _ => h, fun _ _ _ h _ => h, fun _ _ _ h _ => h, fun _ _ _ h _ => h, fun _ _ _ h _ => h, fun _ _ _ h _ => h, fun _ _ _ h _ => h, fun _ _ _ h _ => h, trivial⟩
  case ob =>
    refine ⟨Rg.at_run [2] rfl ?_, ?_⟩
    · intro ρ W hR ⟨q2, _⟩
      replace q2 : ρ 2 = .pointer (some ⟨w.heap.size, 0, none⟩) := q2
      refine ⟨rfl, ?_⟩
      have hc := cell_box (h1.ext hR)
      exact Rg.run_ok (v := .pointer (some ⟨g, 0, none⟩)) (by simp [execOp, Rg.ev, go_sem, q2, hc]) ⟨rfl, hR, Ext.rfl' _⟩
    refine ⟨Rg.at_run [2] rfl ?_, ?_⟩
    · intro ρ W hR ⟨q2, _⟩
      replace q2 : ρ 2 = .pointer (some ⟨w.heap.size, 0, none⟩) := q2
      refine ⟨rfl, ?_⟩
      have hc := cell_box (h1.ext hR)
      exact Rg.run_ok (v := .pointer (some ⟨g, 0, none⟩)) (by simp [execOp, Rg.ev, go_sem, q2, hc]) ⟨rfl, hR, Ext.rfl' _⟩
    refine ⟨Rg.at_run [8] rfl ?_, ?_⟩
    · intro ρ W hR ⟨q8, _⟩
      replace q8 : ρ 8 = .pointer (some ⟨g, 0, none⟩) := q8
      refine ⟨rfl, ?_⟩
      refine Rg.run_enter (by simp [execOp, Rg.ev, go_sem, q8]; exact ⟨⟨rfl, rfl⟩, rfl⟩) ?_
      refine (disk_size g v d _ (h0.ext hR)).mono ?_
      rintro e w2 ⟨rfl, rfl⟩
      exact ⟨_, rfl, rfl, hR, Ext.rfl' _⟩
    refine ⟨Rg.at_run [3] rfl ?_, ?_⟩
    · intro ρ W hR ⟨q3, _⟩
      replace q3 : ρ 3 = .pointer (some ⟨w.heap.size + 1, 0, none⟩) := q3
      refine ⟨rfl, ?_⟩
      have hc := cell_box (h2.ext hR)
      exact Rg.run_ok (v := .slice A2 m.length c2) (by simp [execOp, Rg.ev, go_sem, q3, hc]) ⟨rfl, hR, Ext.rfl' _⟩
    refine ⟨Rg.at_run [10] rfl ?_, ?_⟩
    · intro ρ W hR ⟨q10, _⟩
      replace q10 : ρ 10 = .slice A2 m.length c2 := q10
      refine ⟨rfl, ?_⟩
      exact Rg.run_ok (v := .int .i64 m.length) (by simp [execOp, Rg.ev, go_sem, q10]) ⟨rfl, hR, Ext.rfl' _⟩
    refine ⟨Rg.at_run [9, 11] rfl ?_, ?_⟩
    · intro ρ W hR ⟨q9, q11, _⟩
      replace q9 : ρ 9 = .int .i64 d.b.length := q9
      replace q11 : ρ 11 = .int .i64 m.length := q11
      refine ⟨rfl, ?_⟩
      have hw := IntWalk.i64_in ((d.b.length : Int) + m.length) (by omega)
      exact Rg.run_ok (v := .int .i64 (d.b.length + m.length)) (by simp [execOp, Rg.ev, go_sem, q9, q11, hw]) ⟨rfl, hR, Ext.rfl' _⟩
    refine ⟨Rg.at_run [5] rfl ?_, ?_⟩
    · intro ρ W hR ⟨q5, _⟩
      replace q5 : ρ 5 = .func (.func 46) #[] #[.pointer (some ⟨w.heap.size, 0, none⟩), .pointer (some ⟨w.heap.size + 1, 0, none⟩)] := q5
      refine ⟨rfl, ?_⟩
      exact Rg.run_ok (v := .func (.func 46) #[] #[.pointer (some ⟨w.heap.size, 0, none⟩), .pointer (some ⟨w.heap.size + 1, 0, none⟩)]) (by simp [execOp, Rg.ev, go_sem, q5]) ⟨rfl, hR, Ext.rfl' _⟩
    refine ⟨Rg.at_run [5] rfl ?_, ?_⟩
    · intro ρ W hR ⟨q5, _⟩
      replace q5 : ρ 5 = .func (.func 46) #[] #[.pointer (some ⟨w.heap.size, 0, none⟩), .pointer (some ⟨w.heap.size + 1, 0, none⟩)] := q5
      refine ⟨rfl, ?_⟩
      exact Rg.run_ok (v := .func (.func 46) #[] #[.pointer (some ⟨w.heap.size, 0, none⟩), .pointer (some ⟨w.heap.size + 1, 0, none⟩)]) (by simp [execOp, Rg.ev, go_sem, q5]) ⟨rfl, hR, Ext.rfl' _⟩
    trivial
  case en =>
    intro tm W hR hsz hk
    obtain ⟨l⟩ := tm
    replace hsz : l.length = 16 := hsz
    obtain ⟨u0, u1, u2, u3, u4, u5, u6, u7, u8, u9, u10, u11, u12, u13, u14, u15, rfl⟩ : ∃ u0 u1 u2 u3 u4 u5 u6 u7 u8 u9 u10 u11 u12 u13 u14 u15, l = [u0, u1, u2, u3, u4, u5, u6, u7, u8, u9, u10, u11, u12, u13, u14, u15] := by
      clear hk
      obtain ⟨u0, l0, e0, h0⟩ := Rg.cons_of hsz
      obtain ⟨u1, l1, e1, h1⟩ := Rg.cons_of h0
      obtain ⟨u2, l2, e2, h2⟩ := Rg.cons_of h1
      obtain ⟨u3, l3, e3, h3⟩ := Rg.cons_of h2
      obtain ⟨u4, l4, e4, h4⟩ := Rg.cons_of h3
      obtain ⟨u5, l5, e5, h5⟩ := Rg.cons_of h4
      obtain ⟨u6, l6, e6, h6⟩ := Rg.cons_of h5
      obtain ⟨u7, l7, e7, h7⟩ := Rg.cons_of h6
      obtain ⟨u8, l8, e8, h8⟩ := Rg.cons_of h7
      obtain ⟨u9, l9, e9, h9⟩ := Rg.cons_of h8
      obtain ⟨u10, l10, e10, h10⟩ := Rg.cons_of h9
      obtain ⟨u11, l11, e11, h11⟩ := Rg.cons_of h10
      obtain ⟨u12, l12, e12, h12⟩ := Rg.cons_of h11
      obtain ⟨u13, l13, e13, h13⟩ := Rg.cons_of h12
      obtain ⟨u14, l14, e14, h14⟩ := Rg.cons_of h13
      obtain ⟨u15, l15, e15, h15⟩ := Rg.cons_of h14
      exact ⟨u0, u1, u2, u3, u4, u5, u6, u7, u8, u9, u10, u11, u12, u13, u14, u15, by rw [e0, e1, e2, e3, e4, e5, e6, e7, e8, e9, e10, e11, e12, e13, e14, e15, List.eq_nil_of_length_eq_zero h15]⟩
    obtain rfl : u7 = .pointer (some ⟨g, 0, none⟩) := hk 7
    obtain rfl : u12 = .int .i64 (d.b.length + m.length) := hk 12
    obtain rfl : u13 = .func (.func 46) #[] #[.pointer (some ⟨w.heap.size, 0, none⟩), .pointer (some ⟨w.heap.size + 1, 0, none⟩)] := hk 13
    obtain rfl : u14 = .func (.func 46) #[] #[.pointer (some ⟨w.heap.size, 0, none⟩), .pointer (some ⟨w.heap.size + 1, 0, none⟩)] := hk 14
    clear hk hsz

    go_wp2_with fail
    refine (writes_b g v d _ _ (h0.ext hR) (by omega) _ _ _ _ (Dk.app m) (Dk.app m) (by intro W; simp [callFunc, go_sem, Try.func46]; rfl) (by intro W; simp [callFunc, go_sem, Try.func46]; rfl)
      (hide fun hsz W1 v1 d1 hd hc hb => append1_b g _ _ v1 _ d1 m W1 hd ((h1.ext hR).chg hc (by simp; omega)) ((h2.ext hR).chg hc (by simp; omega)) (((hy.ext hx0).ext hR).chg hc ho) (by rw [hb]; exact hsz))
      (hide fun hsz W1 v1 d1 hd hc hb => append1_b g _ _ v1 _ d1 m W1 hd ((h1.ext hR).chg hc (by simp; omega)) ((h2.ext hR).chg hc (by simp; omega)) (((hy.ext hx0).ext hR).chg hc ho) (by rw [hb]; exact hsz))).mono ?_
    rintro e w1 ⟨rfl, hd⟩
    go_wp2
    go_ret
    exact ⟨rfl, .trans ((hx0.trans' hR).chg _) (fun k hk => .inl hk) hd⟩
end Go.Proofs.Ytboncnlcomeahaa

/- disk: Replace, Arm, Copy; a disk that is none. -/
namespace Go.Proofs.Ytboncnlcomeahaa
set_option linter.unusedVariables false
set_option linter.unusedSimpArgs false
set_option linter.unnecessarySimpa false
set_option maxRecDepth 100000
open Go.RowKit
def Dk.repl (m : Bytes) (d : Dk) : Dk := { d with b := m, sy := m.length }
theorem Dk.repl_ok {d : Dk} (h : d.ok) (m : Bytes) (hl : (m.length : Int) ≤ 200000) : (d.repl m).ok :=
  ⟨by show (0 : Int) ≤ (m.length : Int); omega, Int.le_refl _, hl, h.a0, h.a1, h.p0, h.p1, h.r0⟩
theorem last_raw (g : Nat) (A : Option Addr) (n c : Nat) (u : Value) (w : World) (c0 : w.cell? ⟨g, 0, none⟩ = some (.slice A n c)) (c1 : w.cell? ⟨g, 1, none⟩ = some u) (f1 : w.frozen? ⟨g, 1, none⟩ = false) :
    Calls Try.prog 51 #[.pointer (some ⟨g, 0, none⟩)] w fun e w' => e = .returned (.tuple #[]) ∧ w' = w.setCell ⟨g, 1, none⟩ (.int .i64 n) := by
  go_enter Try.func51, Try.ntmps51
  go_wp2
  go_end0
  exact ⟨rfl, rfl⟩
set_option maxHeartbeats 1600000 in
theorem replace1_b (g n1 n2 : Nat) (v y : Value) (d : Dk) (m : Bytes) (w : World) (h : DiskAt w g v d) (h1 : Blk w n1 42 #[.pointer (some ⟨g, 0, none⟩)]) (h2 : Blk w n2 28 #[y]) (hy : Bs w y m) (hl : (m.length : Int) ≤ 200000) (hn : n1 ≠ g) :
    Calls Try.prog 66 #[.pointer (some ⟨n2, 0, none⟩), .pointer (some ⟨n1, 0, none⟩)] w fun e w' => e = .returned (.tuple #[]) ∧ DiskTo w w' g v (d.repl m) := by
  obtain ⟨A, c, rfl, -, -, -⟩ := id h.bs
  obtain ⟨A2, c2, rfl, -, -, -⟩ := id hy
  go_enter Try.func66, Try.ntmps66
  go_wp2
  refine Rg.regionT Try.checked.mixed 12 3 (by kernel_rfl) [
    (fun x_ _ => x_ = .pointer (some ⟨g, 0, none⟩)),
    (fun x_ _ => x_ = .slice A2 m.length c2),
    (fun z W => Nw w W z m)] (fun W => Ext w W) Ext rfl rfl rfl
    ?st (Ext.rfl' w).drew' ?ob ?en
  case st => exact ⟨fun _ _ _ h _ => h, fun _ _ _ h _ => h, fun _ _ _ h hx => own_ext h hx, trivial⟩
  case ob =>
    refine ⟨Rg.at_run [1] rfl ?_, ?_⟩
    · intro ρ W hR ⟨q1, _⟩
      replace q1 : ρ 1 = .pointer (some ⟨n1, 0, none⟩) := q1
      refine ⟨rfl, ?_⟩
      have hc := cell_box (h1.ext hR)
      exact Rg.run_ok (v := .pointer (some ⟨g, 0, none⟩)) (by simp [execOp, Rg.ev, go_sem, q1, hc]) ⟨rfl, hR, Ext.rfl' _⟩
    refine ⟨Rg.at_run [0] rfl ?_, ?_⟩
    · intro ρ W hR ⟨q0, _⟩
      replace q0 : ρ 0 = .pointer (some ⟨n2, 0, none⟩) := q0
      refine ⟨rfl, ?_⟩
      have hc := cell_box (h2.ext hR)
      exact Rg.run_ok (v := .slice A2 m.length c2) (by simp [execOp, Rg.ev, go_sem, q0, hc]) ⟨rfl, hR, Ext.rfl' _⟩
    refine ⟨Rg.at_run [3] rfl ?_, ?_⟩
    · intro ρ W hR ⟨q3, _⟩
      replace q3 : ρ 3 = .slice A2 m.length c2 := q3
      refine ⟨rfl, ?_⟩
      refine Rg.run_enter (by simp [execOp, Rg.ev, go_sem, q3]; exact ⟨⟨rfl, rfl⟩, rfl⟩) ?_
      refine (clone_b _ m _ (by omega) (hy.ext hR)).mono ?_
      rintro e w2 ⟨k, Ak, ck, hk, rfl, hz, hxx⟩
      have hk' := hk.out
      subst hk'
      exact ⟨_, rfl, hz.trans hR, hR.trans' hxx, hxx⟩
    trivial
  case en =>
    intro tm W hR hsz hk
    obtain ⟨l⟩ := tm
    replace hsz : l.length = 12 := hsz
    obtain ⟨u0, u1, u2, u3, u4, u5, u6, u7, u8, u9, u10, u11, rfl⟩ : ∃ u0 u1 u2 u3 u4 u5 u6 u7 u8 u9 u10 u11, l = [u0, u1, u2, u3, u4, u5, u6, u7, u8, u9, u10, u11] := by
      clear hk
      obtain ⟨u0, l0, e0, h0⟩ := Rg.cons_of hsz
      obtain ⟨u1, l1, e1, h1⟩ := Rg.cons_of h0
      obtain ⟨u2, l2, e2, h2⟩ := Rg.cons_of h1
      obtain ⟨u3, l3, e3, h3⟩ := Rg.cons_of h2
      obtain ⟨u4, l4, e4, h4⟩ := Rg.cons_of h3
      obtain ⟨u5, l5, e5, h5⟩ := Rg.cons_of h4
      obtain ⟨u6, l6, e6, h6⟩ := Rg.cons_of h5
      obtain ⟨u7, l7, e7, h7⟩ := Rg.cons_of h6
      obtain ⟨u8, l8, e8, h8⟩ := Rg.cons_of h7
      obtain ⟨u9, l9, e9, h9⟩ := Rg.cons_of h8
      obtain ⟨u10, l10, e10, h10⟩ := Rg.cons_of h9
      obtain ⟨u11, l11, e11, h11⟩ := Rg.cons_of h10
      exact ⟨u0, u1, u2, u3, u4, u5, u6, u7, u8, u9, u10, u11, by rw [e0, e1, e2, e3, e4, e5, e6, e7, e8, e9, e10, e11, List.eq_nil_of_length_eq_zero h11]⟩
    obtain rfl : u1 = .pointer (some ⟨n1, 0, none⟩) := hk 1
    obtain rfl : u2 = .pointer (some ⟨g, 0, none⟩) := hk 2
    have k4 : (fun z W => Nw w W z m) u4 W := hk 4
    clear hk hsz

    have hF := h.ext hR
    have b1 := cell_box (h1.ext hR)
    have b2 : (W.setCell ⟨g, 0, none⟩ u4).cell? ⟨n1, 0, none⟩ = some (.pointer (some ⟨g, 0, none⟩)) := cell_box (((h1.ext hR)).far hn u4)
    obtain ⟨e0, e1, -, -, -, -⟩ := hF.cells
    have g0 := hF.free 0
    have g1 := hF.free 1
    replace k4 : Nw w W u4 m := k4
    obtain ⟨A3, c3', rfl, -, -⟩ := own_slice (id k4)
    have hoff : Off (.slice A3 m.length c3') [g] := k4.off (by simp; exact h.blk.lt)
    go_wp2_with fail
    have hB := hF.blk.set_ 0 (.slice A3 m.length c3')
    refine (last_raw g A3 m.length c3' (.int .i64 d.sy) _ ((hB.cell 0).trans rfl) ((hB.cell 1).trans rfl) (hB.frozen 1)).mono ?_
    rintro e w2 ⟨rfl, rfl⟩
    go_wp2
    go_end0
    exact ⟨rfl, .slice A3 m.length c3', ⟨(hF.blk.set_ 0 _).set_ 1 _, k4.bs.chg (((Chg.refl [g] _).set (by simp) _).set (by simp) _) hoff, hoff, Dk.repl_ok h.ok m hl⟩, ((hR.chg [g]).set (by simp) _).set (by simp) _, fun k hk => .inr (by have := k4.lt k hk; simpa [World.setCell] using this)⟩
set_option maxHeartbeats 1600000 in
theorem disk_replace (g : Nat) (v y : Value) (d : Dk) (m : Bytes) (w : World) (h : DiskAt w g v d) (hy : Bs w y m) (ho : Off y [g]) (hl : (m.length : Int) ≤ 140737488355328) :
    Calls Try.prog 42 #[.pointer (some ⟨g, 0, none⟩), y] w fun e w' => RetDisk w w' e g v (d.op m.length (Dk.repl m) id) := by
  obtain ⟨A2, c2, rfl, -, -, -⟩ := id hy
  have h1 : Blk ((w.alloc (.cells #[.pointer (some ⟨g, 0, none⟩)] 42)).alloc (.cells #[.slice A2 m.length c2] 28)) w.heap.size 42 #[.pointer (some ⟨g, 0, none⟩)] := (Blk.new w _ _).alloc _
  have h2 : Blk ((w.alloc (.cells #[.pointer (some ⟨g, 0, none⟩)] 42)).alloc (.cells #[.slice A2 m.length c2] 28)) (w.heap.size + 1) 28 #[.slice A2 m.length c2] := by
    have := Blk.new (w.alloc (.cells #[.pointer (some ⟨g, 0, none⟩)] 42)) 28 #[.slice A2 m.length c2]
    simpa using this
  have h0 := (h.box (.cells #[.pointer (some ⟨g, 0, none⟩)] 42)).box (.cells #[.slice A2 m.length c2] 28)
  have hx0 : Ext w ((w.alloc (.cells #[.pointer (some ⟨g, 0, none⟩)] 42)).alloc (.cells #[.slice A2 m.length c2] 28)) := ((Ext.rfl' w).alloc' _).alloc' _
  have hgl := h.blk.lt
  go_enter Try.func42, Try.ntmps42
  go_wp2_with fail
  refine (writes_b g v d _ _ h0 (by omega) _ _ _ _ (Dk.repl m) id (by intro W; simp [callFunc, go_sem, Try.func66]; rfl) (by intro W; simp [callFunc, go_sem, Try.func67]; rfl)
    (hide fun hsz W1 v1 d1 hd hc hb => replace1_b g w.heap.size (w.heap.size + 1) v1 _ d1 m W1 hd (h1.chg hc (by simp; omega)) (h2.chg hc (by simp; omega)) ((hy.ext hx0).chg hc ho) hsz (by omega))
    (hide fun hsz W1 v1 d1 hd hc hb => replace2_b g v1 d1 W1 hd)).mono ?_
  rintro e w1 ⟨rfl, hd⟩
  go_wp2
  go_ret
  exact ⟨rfl, .trans (hx0.chg _) (fun k hk => .inl hk) hd⟩
theorem Dk.arm_ok {d : Dk} (h : d.ok) (a p : Int) (ha : -9223372036854775808 ≤ a ∧ a ≤ 9223372036854775807) (hp : -9223372036854775808 ≤ p ∧ p ≤ 9223372036854775807) : (d.arm a p).ok :=
  ⟨h.s0, h.s1, h.s2, ha.1, ha.2, hp.1, hp.2, fun h => by simpa [Dk.arm] using h⟩
set_option maxHeartbeats 1600000 in
theorem disk_arm (g : Nat) (v : Value) (d : Dk) (a p : Int) (w : World) (h : DiskAt w g v d) (ha : -9223372036854775808 ≤ a ∧ a ≤ 9223372036854775807) (hp : -9223372036854775808 ≤ p ∧ p ≤ 9223372036854775807) :
    Calls Try.prog 25 #[.pointer (some ⟨g, 0, none⟩), .int .i64 a, .int .i64 p] w fun e w' => e = .returned (.tuple #[]) ∧ DiskTo w w' g v (d.arm a p) := by
  obtain ⟨c0, c1, c2, c3, c4, c5⟩ := h.cells
  have f2 := h.free 2
  have f3 := h.free 3
  have f4 := h.free 4
  go_enter Try.func25, Try.ntmps25
  go_wp2
  go_end0
  exact ⟨rfl, v, ⟨((h.blk.set_ 2 _).set_ 3 _).set_ 4 _, h.bs.chg ((((Chg.refl [g] _).set (by simp) _).set (by simp) _).set (by simp) _) h.off, h.off, Dk.arm_ok h.ok a p ha hp⟩, (((Chg.refl [g] _).set (by simp) _).set (by simp) _).set (by simp) _, fun k hk => .inl hk⟩
def RetCopy (w w' : World) (e : Ending) (d : Dk) : Prop :=
  ∃ (g' : Nat) (v' : Value), e = .returned (.pointer (some ⟨g', 0, none⟩)) ∧ w.heap.size ≤ g' ∧ DiskAt w' g' v' d ∧ (∀ k, v'.ownBlock = some k → w.heap.size ≤ k ∧ k < w'.heap.size) ∧ Ext w w'




















/-! ### a disk that is none -/
section
variable (w : World)
theorem none_arm (a p : Int) : Calls Try.prog 25 #[.pointer none, .int .i64 a, .int .i64 p] w fun e w' => e = .returned (.tuple #[]) ∧ w = w' := by
  go_enter Try.func25, Try.ntmps25
  go_wp2
  go_end0
  exact ⟨rfl, rfl⟩
theorem none_crash (p : Int) : Calls Try.prog 28 #[.pointer none, .int .i64 p] w fun e w' => e = .returned (.tuple #[]) ∧ w = w' := by
  go_enter Try.func28, Try.ntmps28
  go_wp2
  go_end0
  exact ⟨rfl, rfl⟩
theorem none_power : Calls Try.prog 30 #[.pointer none] w fun e w' => e = .returned (.tuple #[]) ∧ w = w' := by
  go_enter Try.func30, Try.ntmps30
  go_wp2
  go_end0
  exact ⟨rfl, rfl⟩
theorem none_read : Calls Try.prog 32 #[.pointer none] w fun e w' => e = .returned (.tuple #[.slice none 0 0, .int .i64 1]) ∧ w = w' := by
  go_enter Try.func32, Try.ntmps32
  go_wp2
  go_ret2
  exact ⟨rfl, rfl⟩
theorem none_synced : Calls Try.prog 33 #[.pointer none] w fun e w' => e = .returned (.int .i64 0) ∧ w = w' := by
  go_enter Try.func33, Try.ntmps33
  go_wp2
  go_ret
  exact ⟨rfl, rfl⟩
theorem none_size : Calls Try.prog 49 #[.pointer none] w fun e w' => e = .returned (.int .i64 0) ∧ w = w' := by
  go_enter Try.func49, Try.ntmps49
  go_wp2
  go_ret
  exact ⟨rfl, rfl⟩





theorem none_writes (size : Int) (x y : Value) : Calls Try.prog 48 #[.pointer none, .int .i64 size, x, y] w fun e w' => e = .returned (.int .i64 1) ∧ w = w' := by
  go_enter Try.func48, Try.ntmps48
  go_wp2
  go_ret
  exact ⟨rfl, rfl⟩
theorem none_sync : Calls Try.prog 22 #[.pointer none] w fun e w' => e = .returned (.int .i64 1) ∧ Ext w w' := by
  go_enter Try.func22, Try.ntmps22
  go_wp2_with fail
  refine (none_writes _ _ _ _).mono ?_
  rintro e w1 ⟨rfl, rfl⟩
  go_wp2
  go_ret
  exact ⟨rfl, (Ext.rfl' w).alloc' _⟩
theorem none_replace : Calls Try.prog 42 #[.pointer none, .slice none 0 0] w fun e w' => e = .returned (.int .i64 1) ∧ Ext w w' := by
  go_enter Try.func42, Try.ntmps42
  go_wp2_with fail
  refine (none_writes _ _ _ _).mono ?_
  rintro e w1 ⟨rfl, rfl⟩
  go_wp2
  go_ret
  exact ⟨rfl, ((Ext.rfl' w).alloc' _).alloc' _⟩
end
end Go.Proofs.Ytboncnlcomeahaa

