/- A part of the proof of 'StoreAll'. -/
import Derived.Test.YtlblgopfdadalaaS27
import Derived.Test.YtlblgopfdadalaaS6
import Derived.Deep.QuietTactic
import Derived.BigQuiet
namespace Go.Proofs.Ytlblgopfdadalaa
set_option linter.unusedVariables false
set_option linter.unusedSimpArgs false
set_option linter.unnecessarySimpa false
set_option maxRecDepth 100000
open Go.RowKit
abbrev rcells (v : Value) (d : Dk) : Array Value := #[v, .int .i64 d.sy, .int .i64 d.at_, .int .i64 d.pt, .bool d.ar, .bool d.de]
structure RefAt (w : World) (g : Nat) (v : Value) (d : Dk) : Prop where
  blk : Blk w g 48 (rcells v d)
  bs : Bs w v d.b
  off : Off v [g]
  ok : d.ok
def RefTo (w w' : World) (g : Nat) (v : Value) (d : Dk) : Prop :=
  ∃ v', RefAt w' g v' d ∧ Chg [g] w w' ∧ ∀ k, v'.ownBlock = some k → v.ownBlock = some k ∨ (w.heap.size ≤ k ∧ k < w'.heap.size)
theorem RefAt.ext {w w' : World} {g : Nat} {v : Value} {d : Dk} (h : RefAt w g v d) (hx : Ext w w') : RefAt w' g v d := ⟨h.blk.ext hx, h.bs.ext hx, h.off, h.ok⟩
theorem RefAt.chg {S : List Nat} {w w' : World} {g : Nat} {v : Value} {d : Dk} (h : RefAt w g v d) (hx : Chg S w w') (hg : g ∉ S) (hv : Off v S) : RefAt w' g v d :=
  ⟨h.blk.chg hx hg, h.bs.chg hx hv, h.off, h.ok⟩
theorem RefAt.cells {w : World} {g : Nat} {v : Value} {d : Dk} (h : RefAt w g v d) :
    w.cell? ⟨g, 0, none⟩ = some v ∧ w.cell? ⟨g, 1, none⟩ = some (.int .i64 d.sy) ∧ w.cell? ⟨g, 2, none⟩ = some (.int .i64 d.at_) ∧ w.cell? ⟨g, 3, none⟩ = some (.int .i64 d.pt) ∧ w.cell? ⟨g, 4, none⟩ = some (.bool d.ar) ∧ w.cell? ⟨g, 5, none⟩ = some (.bool d.de) := by
  refine ⟨?_, ?_, ?_, ?_, ?_, ?_⟩ <;> exact (h.blk.cell _).trans rfl
theorem RefAt.free {w : World} {g : Nat} {v : Value} {d : Dk} (h : RefAt w g v d) (i : Nat) : w.frozen? ⟨g, i, none⟩ = false := h.blk.frozen i
theorem RefTo.same {w : World} {g : Nat} {v : Value} {d : Dk} (h : RefAt w g v d) : RefTo w w g v d := ⟨v, h, Chg.refl _ _, fun _ hk => .inl hk⟩
theorem RefTo.trans {w w1 w2 : World} {g : Nat} {v v1 : Value} {d : Dk} (hc : Chg [g] w w1) (hn : ∀ k, v1.ownBlock = some k → v.ownBlock = some k ∨ (w.heap.size ≤ k ∧ k < w1.heap.size)) (h : RefTo w1 w2 g v1 d) : RefTo w w2 g v d := by
  obtain ⟨v2, h2, hc2, hn2⟩ := h
  refine ⟨v2, h2, hc.trans hc2, fun k hk => ?_⟩
  rcases hn2 k hk with h3 | h3
  · rcases hn k h3 with h4 | h4
    · exact .inl h4
    · exact .inr ⟨h4.1, Nat.lt_of_lt_of_le h4.2 hc2.size⟩
  · exact .inr ⟨Nat.le_trans hc.size h3.1, h3.2⟩
def RetRef (w w' : World) (e : Ending) (g : Nat) (v : Value) (r : Dk × Int) : Prop := e = .returned (.int .i64 r.2) ∧ RefTo w w' g v r.1
def Dk.rop (d : Dk) (size : Int) (whole half : Dk → Dk) : Dk × Int :=
  if d.de = true then (d, 16) else if 200000 < size then (d, 12) else if d.ar = true then
    (if d.at_ = 0 then ((half { d with at_ := d.at_ - 1 }).crash (half { d with at_ := d.at_ - 1 }).pt, 16) else (whole { d with at_ := d.at_ - 1 }, 0))
  else (whole d, 0)
/-- the document's disk is as the program's -/
structure Eqv (d r : Dk) : Prop where
  b : d.b = r.b
  sy : d.sy = r.sy
  ar : d.ar = r.ar
  de : d.de = r.de
  pt : d.pt = r.pt
  at_ : d.ar = true → d.at_ = r.at_
set_option maxHeartbeats 1600000 in
theorem ref_power (g : Nat) (v : Value) (d : Dk) (w : World) (h : RefAt w g v d) :
    Calls Try.prog 29 #[.pointer (some ⟨g, 0, none⟩)] w fun e w' => e = .returned (.tuple #[]) ∧ RefTo w w' g v d.power := by
  obtain ⟨A, c, rfl, -, -, -⟩ := id h.bs
  obtain ⟨c0, c1, c2, c3, c4, c5⟩ := h.cells
  have f1 := h.free 1
  have f5 := h.free 5
  go_enter Try.func29, Try.ntmps29
  go_wp2
  go_end0
  exact ⟨rfl, _, ⟨(h.blk.set_ 5 _).set_ 1 _, h.bs.chg (((Chg.refl [g] _).set (by simp) _).set (by simp) _) h.off, h.off, Dk.power_ok h.ok⟩, ((Chg.refl [g] _).set (by simp) _).set (by simp) _, fun k hk => .inl hk⟩
set_option maxHeartbeats 1600000 in
theorem ref_arm (g : Nat) (v : Value) (d : Dk) (a p : Int) (w : World) (h : RefAt w g v d) (ha : -9223372036854775808 ≤ a ∧ a ≤ 9223372036854775807) (hp : -9223372036854775808 ≤ p ∧ p ≤ 9223372036854775807) :
    Calls Try.prog 21 #[.pointer (some ⟨g, 0, none⟩), .int .i64 a, .int .i64 p] w fun e w' => e = .returned (.tuple #[]) ∧ RefTo w w' g v (d.arm a p) := by
  obtain ⟨c0, c1, c2, c3, c4, c5⟩ := h.cells
  have f2 := h.free 2
  have f3 := h.free 3
  have f4 := h.free 4
  go_enter Try.func21, Try.ntmps21
  go_wp2
  go_end0
  exact ⟨rfl, v, ⟨((h.blk.set_ 2 _).set_ 3 _).set_ 4 _, h.bs.chg ((((Chg.refl [g] _).set (by simp) _).set (by simp) _).set (by simp) _) h.off, h.off, Dk.arm_ok h.ok a p ha hp⟩, (((Chg.refl [g] _).set (by simp) _).set (by simp) _).set (by simp) _, fun k hk => .inl hk⟩
set_option maxHeartbeats 1600000 in
theorem ref_cut_no (g : Nat) (v : Value) (d : Dk) (w : World) (h : RefAt w g v d) (hr : d.ar = false) :
    Calls Try.prog 91 #[.pointer (some ⟨g, 0, none⟩)] w fun e w' => e = .returned (.bool false) ∧ w = w' := by
  obtain ⟨c0, c1, c2, c3, c4, c5⟩ := h.cells
  rw [hr] at c4
  go_enter Try.func91, Try.ntmps91
  go_wp2
  go_ret
  exact ⟨rfl, rfl⟩
theorem Dk.dec_ok {d : Dk} (h : d.ok) (hz : ¬ d.at_ = 0) (hr : d.ar = true) : Dk.ok { d with at_ := d.at_ - 1 } :=
  ⟨h.s0, h.s1, h.s2, by show _ ≤ d.at_ - 1; have := h.r0 hr; omega, by show d.at_ - 1 ≤ _; have := h.a1; omega, h.p0, h.p1, fun _ => by show 0 ≤ d.at_ - 1; have := h.r0 hr; omega⟩
set_option maxHeartbeats 1600000 in
theorem ref_cut_go (g : Nat) (v : Value) (d : Dk) (w : World) (h : RefAt w g v d) (hr : d.ar = true) (hz : ¬ d.at_ = 0) :
    Calls Try.prog 91 #[.pointer (some ⟨g, 0, none⟩)] w fun e w' => e = .returned (.bool false) ∧ RefTo w w' g v { d with at_ := d.at_ - 1 } := by
  obtain ⟨c0, c1, c2, c3, c4, c5⟩ := h.cells
  rw [hr] at c4
  have f2 := h.free 2
  have h0 := h.ok.r0 hr
  have ha := h.ok.a1
  have hz2 : ¬ d.at_ - 1 < 0 := by omega
  have hok := Dk.dec_ok h.ok hz hr
  clear hr hz
  go_enter Try.func91, Try.ntmps91
  go_wp2
  go_ret
  refine ⟨rfl, v, ⟨?_, h.bs.chg ((Chg.refl [g] _).set (by simp) _) h.off, h.off, hok⟩, (Chg.refl [g] _).set (by simp) _, fun k hk => .inl hk⟩
  have := h.blk.set_ 2 (.int .i64 (d.at_ - 1))
  exact this
set_option maxHeartbeats 1600000 in
/-- the one that is cut: what is left is no disk in good order till it crashes -/
theorem ref_cut_yes (g : Nat) (v : Value) (d : Dk) (w : World) (h : RefAt w g v d) (hr : d.ar = true) (hz : d.at_ = 0) :
    Calls Try.prog 91 #[.pointer (some ⟨g, 0, none⟩)] w fun e w' => e = .returned (.bool true) ∧ w' = w.setCell ⟨g, 2, none⟩ (.int .i64 (-1)) := by
  obtain ⟨c0, c1, c2, c3, c4, c5⟩ := h.cells
  rw [hr] at c4
  rw [hz] at c2
  have f2 := h.free 2
  go_enter Try.func91, Try.ntmps91
  go_wp2
  go_ret
  exact ⟨rfl, rfl⟩
structure Dk.okr (d : Dk) : Prop where
  s0 : 0 ≤ d.sy
  s1 : d.sy ≤ d.b.length
  s2 : (d.b.length : Int) ≤ 200000
  a0 : -9223372036854775808 ≤ d.at_
  a1 : d.at_ ≤ 9223372036854775807
  p0 : -9223372036854775808 ≤ d.pt
  p1 : d.pt ≤ 9223372036854775807
theorem Dk.ok.r {d : Dk} (h : d.ok) : d.okr := ⟨h.s0, h.s1, h.s2, h.a0, h.a1, h.p0, h.p1⟩
structure RefRaw (w : World) (g : Nat) (v : Value) (d : Dk) : Prop where
  blk : Blk w g 48 (rcells v d)
  bs : Bs w v d.b
  off : Off v [g]
  ok : d.okr
theorem RefAt.raw {w : World} {g : Nat} {v : Value} {d : Dk} (h : RefAt w g v d) : RefRaw w g v d := ⟨h.blk, h.bs, h.off, h.ok.r⟩
theorem left_bdr {d : Dk} (h : d.okr) (p : Int) : d.sy ≤ d.left p ∧ d.left p ≤ d.b.length := by
  have := h.s1
  unfold Dk.left
  omega
theorem crash_okr {d : Dk} (h : d.okr) (p : Int) : (d.crash p).ok := by
  have h1 := left_bdr h p
  have h0 := h.s0
  have hl : ((d.crash p).b.length : Int) = d.left p := by simp only [Dk.crash, Dk.cut, List.length_take]; omega
  exact ⟨h.s0, by show d.sy ≤ _; omega, by have := h.s2; omega, h.a0, h.a1, h.p0, h.p1, by intro h; cases h⟩
set_option maxHeartbeats 3200000 in
theorem ref_crash (g : Nat) (v : Value) (d : Dk) (p : Int) (w : World) (h : RefRaw w g v d) (hp : -9223372036854775808 ≤ p ∧ p ≤ 9223372036854775807) :
    Calls Try.prog 27 #[.pointer (some ⟨g, 0, none⟩), .int .i64 p] w fun e w' => e = .returned (.tuple #[]) ∧ RefTo w w' g v (d.crash p) := by
  obtain ⟨A, c, rfl, hlc, -, -⟩ := id h.bs
  have hcell := fun i => (h.blk.cell i)
  have c0 : w.cell? ⟨g, 0, none⟩ = some (.slice A d.b.length c) := (hcell 0).trans rfl
  have c1 : w.cell? ⟨g, 1, none⟩ = some (.int .i64 d.sy) := (hcell 1).trans rfl
  clear hcell
  have k0 := h.ok.s0
  have k1 := h.ok.s1
  have k2 := h.ok.s2
  have hgl := h.blk.lt
  have hq := left_bdr h.ok p
  obtain ⟨q, hq2⟩ := Int.eq_ofNat_of_zero_le (show 0 ≤ d.left p by omega)
  have e1 : IntKind.i64.wrap ((d.b.length : Int) - d.sy) = (d.b.length : Int) - d.sy := IntWalk.i64_in _ (by omega)
  obtain ⟨M, hM⟩ : ∃ M : Int, M = if p < 0 then 0 else p := ⟨_, rfl⟩
  obtain ⟨K, hK⟩ : ∃ K : Int, K = if (d.b.length : Int) - d.sy < M then (d.b.length : Int) - d.sy else M := ⟨_, rfl⟩
  have hKq : d.sy + K = q := by
    have : d.left p = d.sy + K := by
      rw [hK, hM]
      unfold Dk.left
      split <;> split <;> omega
    omega
  have e2 := hM.symm
  have e3 := hK.symm
  have e4 : IntKind.i64.wrap (d.sy + K) = q := by rw [hKq]; exact IntWalk.i64_in _ (by omega)
  have hqn : q ≤ d.b.length := by omega
  have HB := hide (h.bs.front (k := q) hqn)
  have HQ : Hid ((d.left p).toNat = q) := by unfold Hid; omega
  clear hM hK hKq hq hq2
  go_enter Try.func27, Try.ntmps27
  go_wp2
  go_quiet (fail)
  have hB0 : Blk ((w.drewN nq).alloc (.cells #[] 5)) g 48 (rcells (.slice A d.b.length c) d) := (h.blk.drewN nq).alloc _
  have c0' : ((w.drewN nq).alloc (.cells #[] 5)).cell? ⟨g, 0, none⟩ = some (.slice A d.b.length c) := (hB0.cell 0).trans rfl
  have hx0 : Ext w ((w.drewN nq).alloc (.cells #[] 5)) := ((Ext.rfl' w).drewN' nq).alloc' _
  have hbq := HB.out.ext hx0
  go_wp2_with (at_builtin; refine wpList_appA w _ rfl (.tmp 26) (.tmp 32) rfl _ [] rfl (App0.lit ((Ext.rfl' w).drewN' nq) _ rfl _).app hx0 _ (d.b.take q) rfl hbq (by simp; omega) ?_; intro nb A6 c6 w6 hnb hap hx6 hsm; have hB6 := h.blk.ext hx6; have z0 := hB6.frozen 0; have z4 := hB6.frozen 4; have z5 := hB6.frozen 5; have y0 := (hB6.cell 0).trans rfl; have y4 := (hB6.cell 4).trans rfl; have y5 := (hB6.cell 5).trans rfl)
  go_end0
  have hnb' : nb = (d.crash p).b := by rw [hnb.out]; simp only [Dk.crash, Dk.cut, HQ.out, List.nil_append]
  subst hnb'
  have ho6 : Off (.slice A6 (d.crash p).b.length c6) [g] := hap.off (by simp; exact hgl)
  exact ⟨rfl, .slice A6 (d.crash p).b.length c6, ⟨((hB6.set_ 0 _).set_ 4 _).set_ 5 _, hap.bs.chg ((((Chg.refl [g] _).set (by simp) _).set (by simp) _).set (by simp) _) ho6, ho6, crash_okr h.ok p⟩, (((hx6.chg [g]).set (by simp) _).set (by simp) _).set (by simp) _, fun k hk => .inr (by have := hap.own_lt k hk; simpa [World.setCell] using this)⟩
end Go.Proofs.Ytlblgopfdadalaa
