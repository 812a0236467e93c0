/- disk: Sync, Append, Replace and the rest. -/
import Derived.Test.YtlhokicnedkieaaDisk
namespace Go.Proofs.Ytlhokicnedkieaa
set_option linter.unusedVariables false
set_option linter.unusedSimpArgs false
set_option linter.unnecessarySimpa false
set_option maxRecDepth 100000
open Go.RowKit
theorem sync1_b (g n1 : Nat) (v : Value) (d : Dk) (w : World) (h : DiskAt w g v d) (h1 : Blk w n1 24 #[.pointer (some ⟨g, 0, none⟩)]) :
    Calls Try.prog 41 #[.pointer (some ⟨n1, 0, none⟩)] w fun e w' => e = .returned (.tuple #[]) ∧ DiskTo w w' g v d.last := by
  have b1 := cell_box h1
  go_enter Try.func41, Try.ntmps41
  go_wp2_with fail
  refine (disk_last g v d w h).mono ?_
  rintro e w1 ⟨rfl, hd⟩
  go_wp2
  go_end0
  exact ⟨rfl, hd⟩
theorem sync2_b (g : Nat) (v : Value) (d : Dk) (w : World) (h : DiskAt w g v d) :
    Calls Try.prog 43 #[] w fun e w' => e = .returned (.tuple #[]) ∧ DiskTo w w' g v (id d) := by
  go_enter Try.func43, Try.ntmps43
  go_wp2
  go_end0
  exact ⟨rfl, .same h⟩
theorem replace2_b (g : Nat) (v : Value) (d : Dk) (w : World) (h : DiskAt w g v d) :
    Calls Try.prog 47 #[] w fun e w' => e = .returned (.tuple #[]) ∧ DiskTo w w' g v (id d) := by
  go_enter Try.func47, Try.ntmps47
  go_wp2
  go_end0
  exact ⟨rfl, .same h⟩
theorem DiskAt.box {w : World} {g : Nat} {v : Value} {d : Dk} (h : DiskAt w g v d) (o : Obj) : DiskAt (w.alloc o) g v d := h.ext ((Ext.rfl' w).alloc' o)
theorem run_fn (F : Nat) (cap : Array Value) (h : ∀ W : World, (callFunc F cap).run Try.prog W = .ok (.enter F cap) W) : True := trivial
set_option maxHeartbeats 1600000 in
theorem disk_sync (g : Nat) (v : Value) (d : Dk) (w : World) (h : DiskAt w g v d) :
    Calls Try.prog 15 #[.pointer (some ⟨g, 0, none⟩)] w fun e w' => RetDisk w w' e g v (d.op 0 Dk.last id) := by
  have HW := fun (n1 : Nat) => hide (fun (W : World) (h1 : Blk W n1 24 #[.pointer (some ⟨g, 0, none⟩)]) (v1 : Value) (d1 : Dk) (hd : DiskAt W g v1 d1) => sync1_b g n1 v1 d1 W hd h1)
  go_enter Try.func15, Try.ntmps15
  go_wp2_with fail
  refine (writes_b g v d 0 _ (h.box _) (by omega) _ _ _ _ Dk.last id (by intro W; simp [callFunc, go_sem, Try.func41]; rfl) (by intro W; simp [callFunc, go_sem, Try.func43]; rfl)
    (hide fun _ W v1 d1 hd hc _ => sync1_b g _ v1 d1 W hd ((Blk.new w _ _).chg hc (by have := h.blk.lt; simp; omega)))
    (hide fun _ W v1 d1 hd hc _ => sync2_b g v1 d1 W hd)).mono ?_
  rintro e w1 ⟨rfl, hd⟩
  go_wp2
  go_ret
  exact ⟨rfl, .trans (((Ext.rfl' w).alloc' _).chg _) (fun k hk => .inl hk) hd⟩
set_option maxHeartbeats 1600000 in
theorem disk_append (g : Nat) (v y : Value) (d : Dk) (m : Bytes) (w : World) (h : DiskAt w g v d) (hy : Bs w y m) (ho : Off y [g]) (hl : (m.length : Int) ≤ 140737488355328) :
    Calls Try.prog 14 #[.pointer (some ⟨g, 0, none⟩), y] w fun e w' => RetDisk w w' e g v (d.op (d.b.length + m.length) (Dk.app m) (Dk.app m)) := by
  obtain ⟨A2, c2, rfl, -, -, -⟩ := id hy
  go_enter Try.func14, Try.ntmps14
  go_wp2
  have h1 : Blk ((w.alloc (.cells #[.pointer (some ⟨g, 0, none⟩)] 24)).alloc (.cells #[.slice A2 m.length c2] 22)) w.heap.size 24 #[.pointer (some ⟨g, 0, none⟩)] := (Blk.new w _ _).alloc _
  have h2 : Blk ((w.alloc (.cells #[.pointer (some ⟨g, 0, none⟩)] 24)).alloc (.cells #[.slice A2 m.length c2] 22)) (w.heap.size + 1) 22 #[.slice A2 m.length c2] := by
    have := Blk.new (w.alloc (.cells #[.pointer (some ⟨g, 0, none⟩)] 24)) 22 #[.slice A2 m.length c2]
    simpa using this
  have h0 := (h.box (.cells #[.pointer (some ⟨g, 0, none⟩)] 24)).box (.cells #[.slice A2 m.length c2] 22)
  have hx0 : Ext w ((w.alloc (.cells #[.pointer (some ⟨g, 0, none⟩)] 24)).alloc (.cells #[.slice A2 m.length c2] 22)) := ((Ext.rfl' w).alloc' _).alloc' _
  have hs0 : ((w.alloc (.cells #[.pointer (some ⟨g, 0, none⟩)] 24)).alloc (.cells #[.slice A2 m.length c2] 22)).heap.size = w.heap.size + 2 := by simp
  have hgl := h.blk.lt
  have hs2 := h.ok.s2
  generalize (w.alloc (.cells #[.pointer (some ⟨g, 0, none⟩)] 24)).alloc (.cells #[.slice A2 m.length c2] 22) = w0 at *
  refine Rg.regionT Try.checked.mixed 16 8 (by kernel_rfl) [
    (fun x_ _ => x_ = .pointer (some ⟨g, 0, none⟩)),
    (fun x_ _ => x_ = .pointer (some ⟨g, 0, none⟩)),
    (fun x_ _ => x_ = .int .i64 d.b.length),
    (fun x_ _ => x_ = .slice A2 m.length c2),
    (fun x_ _ => x_ = .int .i64 m.length),
    (fun x_ _ => x_ = .int .i64 (d.b.length + m.length)),
    (fun x_ _ => x_ = .func (.func 37) #[] #[.pointer (some ⟨w.heap.size, 0, none⟩), .pointer (some ⟨w.heap.size + 1, 0, none⟩)]),
    (fun x_ _ => x_ = .func (.func 37) #[] #[.pointer (some ⟨w.heap.size, 0, none⟩), .pointer (some ⟨w.heap.size + 1, 0, none⟩)])] (fun W => Ext w0 W) Ext rfl rfl rfl
    ?st (Ext.rfl' w0).drew' ?ob ?en
  case st => exact ⟨fun _ _ _ h _ => h, fun _ _ _ h _ => h, fun _ _ _ h _ => h, fun _ _ _ h _ => h, fun _ _ _ h _ => h, fun _ _ _ h _ => h, fun _ _ _ h _ => h, fun _ _ _ h _ => h, trivial⟩
  case ob =>
    refine ⟨Rg.at_run [2] rfl ?_, ?_⟩
    · intro ρ W hR ⟨q2, _⟩
      replace q2 : ρ 2 = .pointer (some ⟨w.heap.size, 0, none⟩) := q2
      refine ⟨rfl, ?_⟩
      have hc := cell_box (h1.ext hR)
      exact Rg.run_ok (v := .pointer (some ⟨g, 0, none⟩)) (by simp [execOp, Rg.ev, go_sem, q2, hc]) ⟨rfl, hR, Ext.rfl' _⟩
    refine ⟨Rg.at_run [2] rfl ?_, ?_⟩
    · intro ρ W hR ⟨q2, _⟩
      replace q2 : ρ 2 = .pointer (some ⟨w.heap.size, 0, none⟩) := q2
      refine ⟨rfl, ?_⟩
      have hc := cell_box (h1.ext hR)
      exact Rg.run_ok (v := .pointer (some ⟨g, 0, none⟩)) (by simp [execOp, Rg.ev, go_sem, q2, hc]) ⟨rfl, hR, Ext.rfl' _⟩
    refine ⟨Rg.at_run [8] rfl ?_, ?_⟩
    · intro ρ W hR ⟨q8, _⟩
      replace q8 : ρ 8 = .pointer (some ⟨g, 0, none⟩) := q8
      refine ⟨rfl, ?_⟩
      refine Rg.run_enter (by simp [execOp, Rg.ev, go_sem, q8]; exact ⟨⟨rfl, rfl⟩, rfl⟩) ?_
      refine (disk_size g v d _ (h0.ext hR)).mono ?_
      rintro e w2 ⟨rfl, rfl⟩
      exact ⟨_, rfl, rfl, hR, Ext.rfl' _⟩
    refine ⟨Rg.at_run [3] rfl ?_, ?_⟩
    · intro ρ W hR ⟨q3, _⟩
      replace q3 : ρ 3 = .pointer (some ⟨w.heap.size + 1, 0, none⟩) := q3
      refine ⟨rfl, ?_⟩
      have hc := cell_box (h2.ext hR)
      exact Rg.run_ok (v := .slice A2 m.length c2) (by simp [execOp, Rg.ev, go_sem, q3, hc]) ⟨rfl, hR, Ext.rfl' _⟩
    refine ⟨Rg.at_run [10] rfl ?_, ?_⟩
    · intro ρ W hR ⟨q10, _⟩
      replace q10 : ρ 10 = .slice A2 m.length c2 := q10
      refine ⟨rfl, ?_⟩
      exact Rg.run_ok (v := .int .i64 m.length) (by simp [execOp, Rg.ev, go_sem, q10]) ⟨rfl, hR, Ext.rfl' _⟩
    refine ⟨Rg.at_run [9, 11] rfl ?_, ?_⟩
    · intro ρ W hR ⟨q9, q11, _⟩
      replace q9 : ρ 9 = .int .i64 d.b.length := q9
      replace q11 : ρ 11 = .int .i64 m.length := q11
      refine ⟨rfl, ?_⟩
      have hw := IntWalk.i64_in ((d.b.length : Int) + m.length) (by omega)
      exact Rg.run_ok (v := .int .i64 (d.b.length + m.length)) (by simp [execOp, Rg.ev, go_sem, q9, q11, hw]) ⟨rfl, hR, Ext.rfl' _⟩
    refine ⟨Rg.at_run [5] rfl ?_, ?_⟩
    · intro ρ W hR ⟨q5, _⟩
      replace q5 : ρ 5 = .func (.func 37) #[] #[.pointer (some ⟨w.heap.size, 0, none⟩), .pointer (some ⟨w.heap.size + 1, 0, none⟩)] := q5
      refine ⟨rfl, ?_⟩
      exact Rg.run_ok (v := .func (.func 37) #[] #[.pointer (some ⟨w.heap.size, 0, none⟩), .pointer (some ⟨w.heap.size + 1, 0, none⟩)]) (by simp [execOp, Rg.ev, go_sem, q5]) ⟨rfl, hR, Ext.rfl' _⟩
    refine ⟨Rg.at_run [5] rfl ?_, ?_⟩
    · intro ρ W hR ⟨q5, _⟩
      replace q5 : ρ 5 = .func (.func 37) #[] #[.pointer (some ⟨w.heap.size, 0, none⟩), .pointer (some ⟨w.heap.size + 1, 0, none⟩)] := q5
      refine ⟨rfl, ?_⟩
      exact Rg.run_ok (v := .func (.func 37) #[] #[.pointer (some ⟨w.heap.size, 0, none⟩), .pointer (some ⟨w.heap.size + 1, 0, none⟩)]) (by simp [execOp, Rg.ev, go_sem, q5]) ⟨rfl, hR, Ext.rfl' _⟩
    trivial
  case en =>
    intro tm W hR hsz hk
    obtain ⟨l⟩ := tm
    replace hsz : l.length = 16 := hsz
    obtain ⟨u0, u1, u2, u3, u4, u5, u6, u7, u8, u9, u10, u11, u12, u13, u14, u15, rfl⟩ : ∃ u0 u1 u2 u3 u4 u5 u6 u7 u8 u9 u10 u11 u12 u13 u14 u15, l = [u0, u1, u2, u3, u4, u5, u6, u7, u8, u9, u10, u11, u12, u13, u14, u15] := by
      clear hk
      obtain ⟨u0, l0, e0, h0⟩ := Rg.cons_of hsz
      obtain ⟨u1, l1, e1, h1⟩ := Rg.cons_of h0
      obtain ⟨u2, l2, e2, h2⟩ := Rg.cons_of h1
      obtain ⟨u3, l3, e3, h3⟩ := Rg.cons_of h2
      obtain ⟨u4, l4, e4, h4⟩ := Rg.cons_of h3
      obtain ⟨u5, l5, e5, h5⟩ := Rg.cons_of h4
      obtain ⟨u6, l6, e6, h6⟩ := Rg.cons_of h5
      obtain ⟨u7, l7, e7, h7⟩ := Rg.cons_of h6
      obtain ⟨u8, l8, e8, h8⟩ := Rg.cons_of h7
      obtain ⟨u9, l9, e9, h9⟩ := Rg.cons_of h8
      obtain ⟨u10, l10, e10, h10⟩ := Rg.cons_of h9
      obtain ⟨u11, l11, e11, h11⟩ := Rg.cons_of h10
      obtain ⟨u12, l12, e12, h12⟩ := Rg.cons_of h11
      obtain ⟨u13, l13, e13, h13⟩ := Rg.cons_of h12
      obtain ⟨u14, l14, e14, h14⟩ := Rg.cons_of h13
      obtain ⟨u15, l15, e15, h15⟩ := Rg.cons_of h14
      exact ⟨u0, u1, u2, u3, u4, u5, u6, u7, u8, u9, u10, u11, u12, u13, u14, u15, by rw [e0, e1, e2, e3, e4, e5, e6, e7, e8, e9, e10, e11, e12, e13, e14, e15, List.eq_nil_of_length_eq_zero h15]⟩
    obtain rfl : u7 = .pointer (some ⟨g, 0, none⟩) := hk 7
    obtain rfl : u12 = .int .i64 (d.b.length + m.length) := hk 12
    obtain rfl : u13 = .func (.func 37) #[] #[.pointer (some ⟨w.heap.size, 0, none⟩), .pointer (some ⟨w.heap.size + 1, 0, none⟩)] := hk 13
    obtain rfl : u14 = .func (.func 37) #[] #[.pointer (some ⟨w.heap.size, 0, none⟩), .pointer (some ⟨w.heap.size + 1, 0, none⟩)] := hk 14
    clear hk hsz

    go_wp2_with fail
    refine (writes_b g v d _ _ (h0.ext hR) (by omega) _ _ _ _ (Dk.app m) (Dk.app m) (by intro W; simp [callFunc, go_sem, Try.func37]; rfl) (by intro W; simp [callFunc, go_sem, Try.func37]; rfl)
      (hide fun hsz W1 v1 d1 hd hc hb => append1_b g _ _ v1 _ d1 m W1 hd ((h1.ext hR).chg hc (by simp; omega)) ((h2.ext hR).chg hc (by simp; omega)) (((hy.ext hx0).ext hR).chg hc ho) (by rw [hb]; exact hsz))
      (hide fun hsz W1 v1 d1 hd hc hb => append1_b g _ _ v1 _ d1 m W1 hd ((h1.ext hR).chg hc (by simp; omega)) ((h2.ext hR).chg hc (by simp; omega)) (((hy.ext hx0).ext hR).chg hc ho) (by rw [hb]; exact hsz))).mono ?_
    rintro e w1 ⟨rfl, hd⟩
    go_wp2
    go_ret
    exact ⟨rfl, .trans ((hx0.trans' hR).chg _) (fun k hk => .inl hk) hd⟩
end Go.Proofs.Ytlhokicnedkieaa
