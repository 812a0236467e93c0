/- A part of the proof of 'StoreAll'. -/
import Derived.Test.YtlblgopfdadalaaS20
import Derived.Test.YtlblgopfdadalaaS19
import Derived.Test.YtlblgopfdadalaaS11
namespace Go.Proofs.Ytlblgopfdadalaa
set_option linter.unusedVariables false
set_option linter.unusedSimpArgs false
set_option linter.unnecessarySimpa false
set_option maxRecDepth 100000
open Go.RowKit
theorem sync1_b (g n1 : Nat) (v : Value) (d : Dk) (w : World) (h : DiskAt w g v d) (h1 : Blk w n1 44 #[.pointer (some ⟨g, 0, none⟩)]) :
    Calls Try.prog 96 #[.pointer (some ⟨n1, 0, none⟩)] w fun e w' => e = .returned (.tuple #[]) ∧ DiskTo w w' g v d.last := by
  have b1 := cell_box h1
  go_enter Try.func96, Try.ntmps96
  go_wp2_with fail
  refine (disk_last g v d w h).mono ?_
  rintro e w1 ⟨rfl, hd⟩
  go_wp2
  go_end0
  exact ⟨rfl, hd⟩
theorem sync2_b (g : Nat) (v : Value) (d : Dk) (w : World) (h : DiskAt w g v d) :
    Calls Try.prog 97 #[] w fun e w' => e = .returned (.tuple #[]) ∧ DiskTo w w' g v (id d) := by
  go_enter Try.func97, Try.ntmps97
  go_wp2
  go_end0
  exact ⟨rfl, .same h⟩
theorem replace2_b (g : Nat) (v : Value) (d : Dk) (w : World) (h : DiskAt w g v d) :
    Calls Try.prog 86 #[] w fun e w' => e = .returned (.tuple #[]) ∧ DiskTo w w' g v (id d) := by
  go_enter Try.func86, Try.ntmps86
  go_wp2
  go_end0
  exact ⟨rfl, .same h⟩
theorem DiskAt.box {w : World} {g : Nat} {v : Value} {d : Dk} (h : DiskAt w g v d) (o : Obj) : DiskAt (w.alloc o) g v d := h.ext ((Ext.rfl' w).alloc' o)
set_option maxHeartbeats 1600000 in
theorem disk_sync (g : Nat) (v : Value) (d : Dk) (w : World) (h : DiskAt w g v d) :
    Calls Try.prog 64 #[.pointer (some ⟨g, 0, none⟩)] w fun e w' => RetDisk w w' e g v (d.op 0 Dk.last id) := by
  have HW := fun (n1 : Nat) => hide (fun (W : World) (h1 : Blk W n1 44 #[.pointer (some ⟨g, 0, none⟩)]) (v1 : Value) (d1 : Dk) (hd : DiskAt W g v1 d1) => sync1_b g n1 v1 d1 W hd h1)
  go_enter Try.func64, Try.ntmps64
  go_wp2_with fail
  refine (writes_b g v d 0 _ (h.box _) (by omega) _ _ _ _ Dk.last id (by intro W; simp [callFunc, go_sem, Try.func96]; rfl) (by intro W; simp [callFunc, go_sem, Try.func97]; rfl)
    (hide fun _ W v1 d1 hd hc _ => sync1_b g _ v1 d1 W hd ((Blk.new w _ _).chg hc (by have := h.blk.lt; simp; omega)))
    (hide fun _ W v1 d1 hd hc _ => sync2_b g v1 d1 W hd)).mono ?_
  rintro e w1 ⟨rfl, hd⟩
  go_wp2
  go_ret
  exact ⟨rfl, .trans (((Ext.rfl' w).alloc' _).chg _) (fun k hk => .inl hk) hd⟩
set_option maxHeartbeats 1600000 in
theorem disk_append (g : Nat) (v y : Value) (d : Dk) (m : Bytes) (w : World) (h : DiskAt w g v d) (hy : Bs w y m) (ho : Off y [g]) (hl : (m.length : Int) ≤ 140737488355328) :
    Calls Try.prog 63 #[.pointer (some ⟨g, 0, none⟩), y] w fun e w' => RetDisk w w' e g v (d.op (d.b.length + m.length) (Dk.app m) (Dk.app m)) := by
  obtain ⟨A2, c2, rfl, -, -, -⟩ := id hy
  go_enter Try.func63, Try.ntmps63
  go_wp2
  have h1 : Blk ((w.alloc (.cells #[.pointer (some ⟨g, 0, none⟩)] 44)).alloc (.cells #[.slice A2 m.length c2] 24)) w.heap.size 44 #[.pointer (some ⟨g, 0, none⟩)] := (Blk.new w _ _).alloc _
  have h2 : Blk ((w.alloc (.cells #[.pointer (some ⟨g, 0, none⟩)] 44)).alloc (.cells #[.slice A2 m.length c2] 24)) (w.heap.size + 1) 24 #[.slice A2 m.length c2] := by
    have := Blk.new (w.alloc (.cells #[.pointer (some ⟨g, 0, none⟩)] 44)) 24 #[.slice A2 m.length c2]
    simpa using this
  have h0 := (h.box (.cells #[.pointer (some ⟨g, 0, none⟩)] 44)).box (.cells #[.slice A2 m.length c2] 24)
  have hx0 : Ext w ((w.alloc (.cells #[.pointer (some ⟨g, 0, none⟩)] 44)).alloc (.cells #[.slice A2 m.length c2] 24)) := ((Ext.rfl' w).alloc' _).alloc' _
  have hs0 : ((w.alloc (.cells #[.pointer (some ⟨g, 0, none⟩)] 44)).alloc (.cells #[.slice A2 m.length c2] 24)).heap.size = w.heap.size + 2 := by simp
  have hgl := h.blk.lt
  have hs2 := h.ok.s2
  generalize (w.alloc (.cells #[.pointer (some ⟨g, 0, none⟩)] 44)).alloc (.cells #[.slice A2 m.length c2] 24) = w0 at *
  refine Rg.regionT Try.checked.mixed 16 8 (by kernel_rfl) [
    (fun x_ _ => x_ = .pointer (some ⟨g, 0, none⟩)),
    (fun x_ _ => x_ = .pointer (some ⟨g, 0, none⟩)),
    (fun x_ _ => x_ = .int .i64 d.b.length),
    (fun x_ _ => x_ = .slice A2 m.length c2),
    (fun x_ _ => x_ = .int .i64 m.length),
    (fun x_ _ => x_ = .int .i64 (d.b.length + m.length)),
    (fun x_ _ => x_ = .func (.func 94) #[] #[.pointer (some ⟨w.heap.size, 0, none⟩), .pointer (some ⟨w.heap.size + 1, 0, none⟩)]),
    (fun x_ _ => x_ = .func (.func 94) #[] #[.pointer (some ⟨w.heap.size, 0, none⟩), .pointer (some ⟨w.heap.size + 1, 0, none⟩)])] (fun W => Ext w0 W) Ext rfl rfl rfl
    ?st (Ext.rfl' w0).drew' ?ob ?en
  case st => exact ⟨fun _ _ _ h _ => h, fun _ _ _ h _ => h, fun _ _ _ h _ => h, fun _ _ _ h _ => h, fun _ _ _ h _ => h, fun _ _ _ h _ => h, fun _ _ _ h _ => h, fun _ _ _ h _ => h, trivial⟩
  case ob =>
    refine ⟨Rg.at_run [2] rfl ?_, ?_⟩
    · intro ρ W hR ⟨q2, _⟩
      replace q2 : ρ 2 = .pointer (some ⟨w.heap.size, 0, none⟩) := q2
      refine ⟨rfl, ?_⟩
      have hc := cell_box (h1.ext hR)
      exact Rg.run_ok (v := .pointer (some ⟨g, 0, none⟩)) (by simp [execOp, Rg.ev, go_sem, q2, hc]) ⟨rfl, hR, Ext.rfl' _⟩
    refine ⟨Rg.at_run [2] rfl ?_, ?_⟩
    · intro ρ W hR ⟨q2, _⟩
      replace q2 : ρ 2 = .pointer (some ⟨w.heap.size, 0, none⟩) := q2
      refine ⟨rfl, ?_⟩
      have hc := cell_box (h1.ext hR)
      exact Rg.run_ok (v := .pointer (some ⟨g, 0, none⟩)) (by simp [execOp, Rg.ev, go_sem, q2, hc]) ⟨rfl, hR, Ext.rfl' _⟩
    refine ⟨Rg.at_run [8] rfl ?_, ?_⟩
    · intro ρ W hR ⟨q8, _⟩
      replace q8 : ρ 8 = .pointer (some ⟨g, 0, none⟩) := q8
      refine ⟨rfl, ?_⟩
      refine Rg.run_enter (by simp [execOp, Rg.ev, go_sem, q8]; exact ⟨⟨rfl, rfl⟩, rfl⟩) ?_
      refine (disk_size g v d _ (h0.ext hR)).mono ?_
      rintro e w2 ⟨rfl, rfl⟩
      exact ⟨_, rfl, rfl, hR, Ext.rfl' _⟩
    refine ⟨Rg.at_run [3] rfl ?_, ?_⟩
    · intro ρ W hR ⟨q3, _⟩
      replace q3 : ρ 3 = .pointer (some ⟨w.heap.size + 1, 0, none⟩) := q3
      refine ⟨rfl, ?_⟩
      have hc := cell_box (h2.ext hR)
      exact Rg.run_ok (v := .slice A2 m.length c2) (by simp [execOp, Rg.ev, go_sem, q3, hc]) ⟨rfl, hR, Ext.rfl' _⟩
    refine ⟨Rg.at_run [10] rfl ?_, ?_⟩
    · intro ρ W hR ⟨q10, _⟩
      replace q10 : ρ 10 = .slice A2 m.length c2 := q10
      refine ⟨rfl, ?_⟩
      exact Rg.run_ok (v := .int .i64 m.length) (by simp [execOp, Rg.ev, go_sem, q10]) ⟨rfl, hR, Ext.rfl' _⟩
    refine ⟨Rg.at_run [9, 11] rfl ?_, ?_⟩
    · intro ρ W hR ⟨q9, q11, _⟩
      replace q9 : ρ 9 = .int .i64 d.b.length := q9
      replace q11 : ρ 11 = .int .i64 m.length := q11
      refine ⟨rfl, ?_⟩
      have hw := IntWalk.i64_in ((d.b.length : Int) + m.length) (by omega)
      exact Rg.run_ok (v := .int .i64 (d.b.length + m.length)) (by simp [execOp, Rg.ev, go_sem, q9, q11, hw]) ⟨rfl, hR, Ext.rfl' _⟩
    refine ⟨Rg.at_run [5] rfl ?_, ?_⟩
    · intro ρ W hR ⟨q5, _⟩
      replace q5 : ρ 5 = .func (.func 94) #[] #[.pointer (some ⟨w.heap.size, 0, none⟩), .pointer (some ⟨w.heap.size + 1, 0, none⟩)] := q5
      refine ⟨rfl, ?_⟩
      exact Rg.run_ok (v := .func (.func 94) #[] #[.pointer (some ⟨w.heap.size, 0, none⟩), .pointer (some ⟨w.heap.size + 1, 0, none⟩)]) (by simp [execOp, Rg.ev, go_sem, q5]) ⟨rfl, hR, Ext.rfl' _⟩
    refine ⟨Rg.at_run [5] rfl ?_, ?_⟩
    · intro ρ W hR ⟨q5, _⟩
      replace q5 : ρ 5 = .func (.func 94) #[] #[.pointer (some ⟨w.heap.size, 0, none⟩), .pointer (some ⟨w.heap.size + 1, 0, none⟩)] := q5
      refine ⟨rfl, ?_⟩
      exact Rg.run_ok (v := .func (.func 94) #[] #[.pointer (some ⟨w.heap.size, 0, none⟩), .pointer (some ⟨w.heap.size + 1, 0, none⟩)]) (by simp [execOp, Rg.ev, go_sem, q5]) ⟨rfl, hR, Ext.rfl' _⟩
    trivial
  case en =>
    intro tm W hR hsz hk
    obtain ⟨l⟩ := tm
    replace hsz : l.length = 16 := hsz
    obtain ⟨u0, u1, u2, u3, u4, u5, u6, u7, u8, u9, u10, u11, u12, u13, u14, u15, rfl⟩ : ∃ u0 u1 u2 u3 u4 u5 u6 u7 u8 u9 u10 u11 u12 u13 u14 u15, l = [u0, u1, u2, u3, u4, u5, u6, u7, u8, u9, u10, u11, u12, u13, u14, u15] := by
      clear hk
      obtain ⟨u0, l0, e0, h0⟩ := Rg.cons_of hsz
      obtain ⟨u1, l1, e1, h1⟩ := Rg.cons_of h0
      obtain ⟨u2, l2, e2, h2⟩ := Rg.cons_of h1
      obtain ⟨u3, l3, e3, h3⟩ := Rg.cons_of h2
      obtain ⟨u4, l4, e4, h4⟩ := Rg.cons_of h3
      obtain ⟨u5, l5, e5, h5⟩ := Rg.cons_of h4
      obtain ⟨u6, l6, e6, h6⟩ := Rg.cons_of h5
      obtain ⟨u7, l7, e7, h7⟩ := Rg.cons_of h6
      obtain ⟨u8, l8, e8, h8⟩ := Rg.cons_of h7
      obtain ⟨u9, l9, e9, h9⟩ := Rg.cons_of h8
      obtain ⟨u10, l10, e10, h10⟩ := Rg.cons_of h9
      obtain ⟨u11, l11, e11, h11⟩ := Rg.cons_of h10
      obtain ⟨u12, l12, e12, h12⟩ := Rg.cons_of h11
      obtain ⟨u13, l13, e13, h13⟩ := Rg.cons_of h12
      obtain ⟨u14, l14, e14, h14⟩ := Rg.cons_of h13
      obtain ⟨u15, l15, e15, h15⟩ := Rg.cons_of h14
      exact ⟨u0, u1, u2, u3, u4, u5, u6, u7, u8, u9, u10, u11, u12, u13, u14, u15, by rw [e0, e1, e2, e3, e4, e5, e6, e7, e8, e9, e10, e11, e12, e13, e14, e15, List.eq_nil_of_length_eq_zero h15]⟩
    obtain rfl : u7 = .pointer (some ⟨g, 0, none⟩) := hk 7
    obtain rfl : u12 = .int .i64 (d.b.length + m.length) := hk 12
    obtain rfl : u13 = .func (.func 94) #[] #[.pointer (some ⟨w.heap.size, 0, none⟩), .pointer (some ⟨w.heap.size + 1, 0, none⟩)] := hk 13
    obtain rfl : u14 = .func (.func 94) #[] #[.pointer (some ⟨w.heap.size, 0, none⟩), .pointer (some ⟨w.heap.size + 1, 0, none⟩)] := hk 14
    clear hk hsz
    go_wp2_with fail
    refine (writes_b g v d _ _ (h0.ext hR) (by omega) _ _ _ _ (Dk.app m) (Dk.app m) (by intro W; simp [callFunc, go_sem, Try.func94]; rfl) (by intro W; simp [callFunc, go_sem, Try.func94]; rfl)
      (hide fun hsz W1 v1 d1 hd hc hb => append1_b g _ _ v1 _ d1 m W1 hd ((h1.ext hR).chg hc (by simp; omega)) ((h2.ext hR).chg hc (by simp; omega)) (((hy.ext hx0).ext hR).chg hc ho) (by rw [hb]; exact hsz))
      (hide fun hsz W1 v1 d1 hd hc hb => append1_b g _ _ v1 _ d1 m W1 hd ((h1.ext hR).chg hc (by simp; omega)) ((h2.ext hR).chg hc (by simp; omega)) (((hy.ext hx0).ext hR).chg hc ho) (by rw [hb]; exact hsz))).mono ?_
    rintro e w1 ⟨rfl, hd⟩
    go_wp2
    go_ret
    exact ⟨rfl, .trans ((hx0.trans' hR).chg _) (fun k hk => .inl hk) hd⟩
end Go.Proofs.Ytlblgopfdadalaa
namespace Go.Proofs.Ytlblgopfdadalaa
set_option linter.unusedVariables false
set_option linter.unusedSimpArgs false
set_option linter.unnecessarySimpa false
set_option maxRecDepth 100000
open Go.RowKit
def Dk.repl (m : Bytes) (d : Dk) : Dk := { d with b := m, sy := m.length }
theorem Dk.repl_ok {d : Dk} (h : d.ok) (m : Bytes) (hl : (m.length : Int) ≤ 200000) : (d.repl m).ok :=
  ⟨by show (0 : Int) ≤ (m.length : Int); omega, Int.le_refl _, hl, h.a0, h.a1, h.p0, h.p1, h.r0⟩
theorem last_raw (g : Nat) (A : Option Addr) (n c : Nat) (u : Value) (w : World) (c0 : w.cell? ⟨g, 0, none⟩ = some (.slice A n c)) (c1 : w.cell? ⟨g, 1, none⟩ = some u) (f1 : w.frozen? ⟨g, 1, none⟩ = false) :
    Calls Try.prog 70 #[.pointer (some ⟨g, 0, none⟩)] w fun e w' => e = .returned (.tuple #[]) ∧ w' = w.setCell ⟨g, 1, none⟩ (.int .i64 n) := by
  go_enter Try.func70, Try.ntmps70
  go_wp2
  go_end0
  exact ⟨rfl, rfl⟩
set_option maxHeartbeats 1600000 in
theorem replace1_b (g n1 n2 : Nat) (v y : Value) (d : Dk) (m : Bytes) (w : World) (h : DiskAt w g v d) (h1 : Blk w n1 44 #[.pointer (some ⟨g, 0, none⟩)]) (h2 : Blk w n2 24 #[y]) (hy : Bs w y m) (hl : (m.length : Int) ≤ 200000) (hn : n1 ≠ g) :
    Calls Try.prog 85 #[.pointer (some ⟨n2, 0, none⟩), .pointer (some ⟨n1, 0, none⟩)] w fun e w' => e = .returned (.tuple #[]) ∧ DiskTo w w' g v (d.repl m) := by
  obtain ⟨A, c, rfl, -, -, -⟩ := id h.bs
  obtain ⟨A2, c2, rfl, -, -, -⟩ := id hy
  go_enter Try.func85, Try.ntmps85
  go_wp2
  refine Rg.regionT Try.checked.mixed 12 3 (by kernel_rfl) [
    (fun x_ _ => x_ = .pointer (some ⟨g, 0, none⟩)),
    (fun x_ _ => x_ = .slice A2 m.length c2),
    (fun z W => Nw w W z m)] (fun W => Ext w W) Ext rfl rfl rfl
    ?st (Ext.rfl' w).drew' ?ob ?en
  case st => exact ⟨fun _ _ _ h _ => h, fun _ _ _ h _ => h, fun _ _ _ h hx => own_ext h hx, trivial⟩
  case ob =>
    refine ⟨Rg.at_run [1] rfl ?_, ?_⟩
    · intro ρ W hR ⟨q1, _⟩
      replace q1 : ρ 1 = .pointer (some ⟨n1, 0, none⟩) := q1
      refine ⟨rfl, ?_⟩
      have hc := cell_box (h1.ext hR)
      exact Rg.run_ok (v := .pointer (some ⟨g, 0, none⟩)) (by simp [execOp, Rg.ev, go_sem, q1, hc]) ⟨rfl, hR, Ext.rfl' _⟩
    refine ⟨Rg.at_run [0] rfl ?_, ?_⟩
    · intro ρ W hR ⟨q0, _⟩
      replace q0 : ρ 0 = .pointer (some ⟨n2, 0, none⟩) := q0
      refine ⟨rfl, ?_⟩
      have hc := cell_box (h2.ext hR)
      exact Rg.run_ok (v := .slice A2 m.length c2) (by simp [execOp, Rg.ev, go_sem, q0, hc]) ⟨rfl, hR, Ext.rfl' _⟩
    refine ⟨Rg.at_run [3] rfl ?_, ?_⟩
    · intro ρ W hR ⟨q3, _⟩
      replace q3 : ρ 3 = .slice A2 m.length c2 := q3
      refine ⟨rfl, ?_⟩
      refine Rg.run_enter (by simp [execOp, Rg.ev, go_sem, q3]; exact ⟨⟨rfl, rfl⟩, rfl⟩) ?_
      refine (clone_b _ m _ (by omega) (hy.ext hR)).mono ?_
      rintro e w2 ⟨k, Ak, ck, hk, rfl, hz, hxx⟩
      have hk' := hk.out
      subst hk'
      exact ⟨_, rfl, hz.trans hR, hR.trans' hxx, hxx⟩
    trivial
  case en =>
    intro tm W hR hsz hk
    obtain ⟨l⟩ := tm
    replace hsz : l.length = 12 := hsz
    obtain ⟨u0, u1, u2, u3, u4, u5, u6, u7, u8, u9, u10, u11, rfl⟩ : ∃ u0 u1 u2 u3 u4 u5 u6 u7 u8 u9 u10 u11, l = [u0, u1, u2, u3, u4, u5, u6, u7, u8, u9, u10, u11] := by
      clear hk
      obtain ⟨u0, l0, e0, h0⟩ := Rg.cons_of hsz
      obtain ⟨u1, l1, e1, h1⟩ := Rg.cons_of h0
      obtain ⟨u2, l2, e2, h2⟩ := Rg.cons_of h1
      obtain ⟨u3, l3, e3, h3⟩ := Rg.cons_of h2
      obtain ⟨u4, l4, e4, h4⟩ := Rg.cons_of h3
      obtain ⟨u5, l5, e5, h5⟩ := Rg.cons_of h4
      obtain ⟨u6, l6, e6, h6⟩ := Rg.cons_of h5
      obtain ⟨u7, l7, e7, h7⟩ := Rg.cons_of h6
      obtain ⟨u8, l8, e8, h8⟩ := Rg.cons_of h7
      obtain ⟨u9, l9, e9, h9⟩ := Rg.cons_of h8
      obtain ⟨u10, l10, e10, h10⟩ := Rg.cons_of h9
      obtain ⟨u11, l11, e11, h11⟩ := Rg.cons_of h10
      exact ⟨u0, u1, u2, u3, u4, u5, u6, u7, u8, u9, u10, u11, by rw [e0, e1, e2, e3, e4, e5, e6, e7, e8, e9, e10, e11, List.eq_nil_of_length_eq_zero h11]⟩
    obtain rfl : u1 = .pointer (some ⟨n1, 0, none⟩) := hk 1
    obtain rfl : u2 = .pointer (some ⟨g, 0, none⟩) := hk 2
    have k4 : (fun z W => Nw w W z m) u4 W := hk 4
    clear hk hsz
    have hF := h.ext hR
    have b1 := cell_box (h1.ext hR)
    have b2 : (W.setCell ⟨g, 0, none⟩ u4).cell? ⟨n1, 0, none⟩ = some (.pointer (some ⟨g, 0, none⟩)) := cell_box (((h1.ext hR)).far hn u4)
    obtain ⟨e0, e1, -, -, -, -⟩ := hF.cells
    have g0 := hF.free 0
    have g1 := hF.free 1
    replace k4 : Nw w W u4 m := k4
    obtain ⟨A3, c3', rfl, -, -⟩ := own_slice (id k4)
    have hoff : Off (.slice A3 m.length c3') [g] := k4.off (by simp; exact h.blk.lt)
    go_wp2_with fail
    have hB := hF.blk.set_ 0 (.slice A3 m.length c3')
    refine (last_raw g A3 m.length c3' (.int .i64 d.sy) _ ((hB.cell 0).trans rfl) ((hB.cell 1).trans rfl) (hB.frozen 1)).mono ?_
    rintro e w2 ⟨rfl, rfl⟩
    go_wp2
    go_end0
    exact ⟨rfl, .slice A3 m.length c3', ⟨(hF.blk.set_ 0 _).set_ 1 _, k4.bs.chg (((Chg.refl [g] _).set (by simp) _).set (by simp) _) hoff, hoff, Dk.repl_ok h.ok m hl⟩, ((hR.chg [g]).set (by simp) _).set (by simp) _, fun k hk => .inr (by have := k4.lt k hk; simpa [World.setCell] using this)⟩
set_option maxHeartbeats 1600000 in
theorem disk_replace (g : Nat) (v y : Value) (d : Dk) (m : Bytes) (w : World) (h : DiskAt w g v d) (hy : Bs w y m) (ho : Off y [g]) (hl : (m.length : Int) ≤ 140737488355328) :
    Calls Try.prog 53 #[.pointer (some ⟨g, 0, none⟩), y] w fun e w' => RetDisk w w' e g v (d.op m.length (Dk.repl m) id) := by
  obtain ⟨A2, c2, rfl, -, -, -⟩ := id hy
  have h1 : Blk ((w.alloc (.cells #[.pointer (some ⟨g, 0, none⟩)] 44)).alloc (.cells #[.slice A2 m.length c2] 24)) w.heap.size 44 #[.pointer (some ⟨g, 0, none⟩)] := (Blk.new w _ _).alloc _
  have h2 : Blk ((w.alloc (.cells #[.pointer (some ⟨g, 0, none⟩)] 44)).alloc (.cells #[.slice A2 m.length c2] 24)) (w.heap.size + 1) 24 #[.slice A2 m.length c2] := by
    have := Blk.new (w.alloc (.cells #[.pointer (some ⟨g, 0, none⟩)] 44)) 24 #[.slice A2 m.length c2]
    simpa using this
  have h0 := (h.box (.cells #[.pointer (some ⟨g, 0, none⟩)] 44)).box (.cells #[.slice A2 m.length c2] 24)
  have hx0 : Ext w ((w.alloc (.cells #[.pointer (some ⟨g, 0, none⟩)] 44)).alloc (.cells #[.slice A2 m.length c2] 24)) := ((Ext.rfl' w).alloc' _).alloc' _
  have hgl := h.blk.lt
  go_enter Try.func53, Try.ntmps53
  go_wp2_with fail
  refine (writes_b g v d _ _ h0 (by omega) _ _ _ _ (Dk.repl m) id (by intro W; simp [callFunc, go_sem, Try.func85]; rfl) (by intro W; simp [callFunc, go_sem, Try.func86]; rfl)
    (hide fun hsz W1 v1 d1 hd hc hb => replace1_b g w.heap.size (w.heap.size + 1) v1 _ d1 m W1 hd (h1.chg hc (by simp; omega)) (h2.chg hc (by simp; omega)) ((hy.ext hx0).chg hc ho) hsz (by omega))
    (hide fun hsz W1 v1 d1 hd hc hb => replace2_b g v1 d1 W1 hd)).mono ?_
  rintro e w1 ⟨rfl, hd⟩
  go_wp2
  go_ret
  exact ⟨rfl, .trans (hx0.chg _) (fun k hk => .inl hk) hd⟩
theorem Dk.arm_ok {d : Dk} (h : d.ok) (a p : Int) (ha : -9223372036854775808 ≤ a ∧ a ≤ 9223372036854775807) (hp : -9223372036854775808 ≤ p ∧ p ≤ 9223372036854775807) : (d.arm a p).ok :=
  ⟨h.s0, h.s1, h.s2, ha.1, ha.2, hp.1, hp.2, fun h => by simpa [Dk.arm] using h⟩
set_option maxHeartbeats 1600000 in
theorem disk_arm (g : Nat) (v : Value) (d : Dk) (a p : Int) (w : World) (h : DiskAt w g v d) (ha : -9223372036854775808 ≤ a ∧ a ≤ 9223372036854775807) (hp : -9223372036854775808 ≤ p ∧ p ≤ 9223372036854775807) :
    Calls Try.prog 20 #[.pointer (some ⟨g, 0, none⟩), .int .i64 a, .int .i64 p] w fun e w' => e = .returned (.tuple #[]) ∧ DiskTo w w' g v (d.arm a p) := by
  obtain ⟨c0, c1, c2, c3, c4, c5⟩ := h.cells
  have f2 := h.free 2
  have f3 := h.free 3
  have f4 := h.free 4
  go_enter Try.func20, Try.ntmps20
  go_wp2
  go_end0
  exact ⟨rfl, v, ⟨((h.blk.set_ 2 _).set_ 3 _).set_ 4 _, h.bs.chg ((((Chg.refl [g] _).set (by simp) _).set (by simp) _).set (by simp) _) h.off, h.off, Dk.arm_ok h.ok a p ha hp⟩, (((Chg.refl [g] _).set (by simp) _).set (by simp) _).set (by simp) _, fun k hk => .inl hk⟩
/-! ### a disk that is none -/
section
variable (w : World)
end
end Go.Proofs.Ytlblgopfdadalaa
namespace Go.Proofs.Ytlblgopfdadalaa
set_option linter.unusedVariables false
set_option linter.unusedSimpArgs false
set_option linter.unnecessarySimpa false
set_option maxRecDepth 100000
open Go.RowKit
def isSnap (r : Rec) : Bool := r.kind == 4
set_option maxHeartbeats 1600000 in
theorem saveF_b (r : Rec) (v1 v2 : Value) (w : World) : Calls Try.prog 62 #[.agg (recells r v1 v2).toArray] w fun e w' => e = .returned (.bool (isSnap r)) ∧ Ext w w' := by
  have hx : Ext w (w.alloc (.cells (recells r v1 v2).toArray 101)) := (Ext.rfl' _).alloc' _
  go_enter Try.func62, Try.ntmps62
  go_wp2
  go_ret
  exact ⟨rfl, hx⟩
def RetIx (l : List Rec) (w w' : World) (e : Ending) : Prop := ∃ i : Int, e = .returned (.int .i64 i) ∧ Ext w w' ∧ Hid (decide (0 ≤ i) = l.any isSnap)
set_option maxHeartbeats 1600000 in
theorem idxSnap_b (x : Value) (l : List Rec) (w : World) (hl : l.length ≤ 100000) (hx : Enc.Sl reE w noneAt x l) :
    Calls Try.prog 93 #[x, .func (.func 62) #[] #[]] w fun e w' => RetIx l w w' e := by
  obtain ⟨A, cap, rfl, k1, k2⟩ := hx.form
  go_enter Try.func93, Try.ntmps93
  go_wp2
  go_loopw [8] (fun i wr => ∃ a : Nat, a ≤ l.length ∧ i = .int .i64 a ∧ Hid (∀ m s, m < a → l[m]? = some s → isSnap s = false) ∧ Ext w wr) (fun i _ => (l.length - intOf i).toNat)
  case atStart => exact ⟨0, Nat.zero_le _, rfl, hide (fun m s h => by omega), Ext.rfl' w⟩
  case round =>
    obtain ⟨a, hal, rfl, hlo, hx1⟩ := hrel
    by_cases hlt : a < l.length
    · obtain ⟨ad, r, v1, v2, rfl, hr, hb, p0, p1, p2, p3, p4, p5, p6, p7, p8, r1, r2, r3⟩ := re_at (hx.ext hx1) (k := a) hlt
      have HP := hide (fun W => saveF_b r v1 v2 W)
      go_wp2_with fail
      refine (HP.out _).mono ?_
      rintro e w2 ⟨rfl, hx2⟩
      obtain ⟨q, hq⟩ : ∃ q, isSnap r = q := ⟨_, rfl⟩
      rw [hq]
      have HQ := hide hq
      clear hq
      cases q with
      | true =>
        go_wp2
        go_ret
        exact ⟨a, rfl, hx1.trans' hx2, hide (by
          rw [decide_eq_true (by omega), eq_comm, List.any_eq_true]
          exact ⟨r, List.mem_of_getElem? hr.out, HQ.out⟩)⟩
      | false =>
        go_wp2
        go_roundw
        case rel =>
          refine ⟨a + 1, by omega, by go_num, hide fun m t hm ht => ?_, hx1.trans' hx2⟩
          by_cases hma : m < a
          · exact hlo.out m t hma ht
          · obtain rfl : m = a := by omega
            obtain rfl := Option.some.inj (ht.symm.trans hr.out)
            exact HQ.out
        case measure => simp [intOf]; omega
    · go_wp2
      go_ret
      refine ⟨-1, rfl, hx1, hide ?_⟩
      rw [decide_eq_false (by omega), eq_comm, List.any_eq_false]
      intro s hs
      obtain ⟨m, hm⟩ := List.mem_iff_getElem?.1 hs
      have hml := (List.getElem?_eq_some_iff.1 hm).1
      rw [hlo.out m s (by omega) hm]
      simp
set_option maxHeartbeats 1600000 in
theorem hasSnap_b (x : Value) (l : List Rec) (w : World) (hl : l.length ≤ 100000) (hx : Enc.Sl reE w noneAt x l) :
    Calls Try.prog 61 #[x, .func (.func 62) #[] #[]] w fun e w' => e = .returned (.bool (l.any isSnap)) ∧ Ext w w' := by
  obtain ⟨A, cap, rfl, k1, k2⟩ := hx.form
  obtain ⟨b, hb⟩ : ∃ b, l.any isSnap = b := ⟨_, rfl⟩
  have HI := hide (idxSnap_b (.slice A l.length cap) l w hl hx)
  rw [hb]
  have HB := hide hb
  clear hb
  go_enter Try.func61, Try.ntmps61
  go_wp2_with fail
  refine HI.out.mono ?_
  rintro e w2 ⟨i, rfl, hx2, hi⟩
  go_wp2
  go_ret
  refine ⟨?_, hx2⟩
  show Ending.returned (.bool (decide (0 ≤ i))) = _
  rw [hi.out, HB.out]
/-- what a saving does to the disk -/
def saveD (d : Dk) (l : List Rec) (next : Kp) : Dk × Int :=
  if l.any isSnap = true then d.op (lput (krecs next)).length (Dk.repl (lput (krecs next))) id
  else if (d.op (d.b.length + (lput l).length) (Dk.app (lput l)) (Dk.app (lput l))).2 = 0 then (d.op (d.b.length + (lput l).length) (Dk.app (lput l)) (Dk.app (lput l))).1.op 0 Dk.last id
  else d.op (d.b.length + (lput l).length) (Dk.app (lput l)) (Dk.app (lput l))
def save (d : Dk) (k : Kp) (l : List Rec) : Dk × Kp × Int :=
  if l = [] then (d, k, 0) else ((saveD d l (kfold k l)).1, if (saveD d l (kfold k l)).2 = 0 then kfold k l else k, (saveD d l (kfold k l)).2)
/-- a store and its disk -/
structure StD (w : World) (gs gd : Nat) (k : Kp) (d : Dk) (v : Value) (As : Option Addr) (cs : Nat) (Ae : Option Addr) (ce : Nat) : Prop where
  disk : DiskAt w gd v d
  so : SoAt w gs gd k As cs Ae ce
  ne : gs ≠ gd
  own : ∀ j, v.ownBlock = some j → j ≠ gs
  wide : k.wide
  lt : ∀ j, v.ownBlock = some j → j < w.heap.size
theorem StD.ext {w w' : World} {gs gd : Nat} {k : Kp} {d : Dk} {v : Value} {As Ae : Option Addr} {cs ce : Nat} (h : StD w gs gd k d v As cs Ae ce) (hx : Ext w w') : StD w' gs gd k d v As cs Ae ce :=
  ⟨h.disk.ext hx, h.so.ext hx, h.ne, h.own, h.wide, fun j hj => Nat.lt_of_lt_of_le (h.lt j hj) hx.size⟩
/-- the disk is turned -/
theorem StD.to {w w' : World} {gs gd : Nat} {k : Kp} {d d' : Dk} {v : Value} {As Ae : Option Addr} {cs ce : Nat} (h : StD w gs gd k d v As cs Ae ce) (hd : DiskTo w w' gd v d') : ∃ v', StD w' gs gd k d' v' As cs Ae ce ∧ Chg [gd] w w' := by
  obtain ⟨v', h1, h2, h3⟩ := hd
  have hsz := h2.size
  have hgs := h.so.blk.lt
  refine ⟨v', ⟨h1, h.so.chg h2 h.ne, h.ne, fun j hj => ?_, h.wide, fun j hj => ?_⟩, h2⟩
  · rcases h3 j hj with h4 | h4
    · exact h.own j h4
    · omega
  · rcases h3 j hj with h4 | h4
    · have := h.lt j h4; omega
    · exact h4.2
theorem krecs_small {k : Kp} {n : Nat} (h : k.small n) (hw : k.wide) (he : ∀ e ∈ k.ents, 0 ≤ e.term ∧ e.term ≤ 18446744073709551615) : (∀ r ∈ krecs k, r.wide ∧ r.small) ∧ (krecs k).length ≤ n + 2 := by
  constructor
  · intro r hr
    rw [krecs_eq] at hr
    rcases List.mem_append.1 hr with hr | hr
    · unfold krecs1 at hr
      rcases List.mem_cons.1 hr with rfl | hr
      · exact ⟨rHard_wide hw, by simp [rHard, Rec.small, En0, Sn0]⟩
      · split at hr
        · cases hr
        · rw [List.mem_singleton.1 hr]
          exact ⟨rSnap_wide hw, by simp [rSnap, Rec.small, En0, h.state]⟩
    · obtain ⟨e, he', rfl⟩ := List.mem_map.1 hr
      exact ⟨rEnt_wide (he e he'), by simp [rEnt, Rec.small, Sn0, h.data e he']⟩
  · rw [krecs_eq, List.length_append, List.length_map]
    have := krecs1_len k
    have := h.len
    omega
theorem sl_terms {w : World} {X : Avoid} {x : Value} {l : List En} (h : Enc.Sl enE w X x l) : ∀ e ∈ l, 0 ≤ e.term ∧ e.term ≤ 18446744073709551615 := by
  intro e he
  obtain ⟨k, hk⟩ := List.mem_iff_getElem?.1 he
  obtain ⟨A, c, rfl, -, -⟩ := h.form
  obtain ⟨ad, e', v, -, h1, -, -, -, h2, -⟩ := en_at h (k := k) (List.getElem?_eq_some_iff.1 hk).1
  rw [Option.some.inj (hk.symm.trans h1.out)]
  exact h2
end Go.Proofs.Ytlblgopfdadalaa
