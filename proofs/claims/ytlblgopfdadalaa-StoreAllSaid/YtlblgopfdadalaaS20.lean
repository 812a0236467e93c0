/- A part of the proof of 'StoreAll'. -/
import Derived.Test.YtlblgopfdadalaaS4
import Derived.StillTailTactics
import Derived.Test.YtlblgopfdadalaaS9
import Derived.Test.YtlblgopfdadalaaS6
namespace Go.Proofs.Ytlblgopfdadalaa
set_option linter.unusedVariables false
set_option linter.unusedSimpArgs false
set_option linter.unnecessarySimpa false
set_option maxRecDepth 100000
open Go.RowKit
/-- what a disk is -/
structure Dk where
  b : Bytes
  sy : Int
  ar : Bool
  at_ : Int
  pt : Int
  de : Bool
abbrev dcells (v : Value) (d : Dk) : Array Value := #[v, .int .i64 d.sy, .bool d.ar, .int .i64 d.at_, .int .i64 d.pt, .bool d.de]
structure Dk.ok (d : Dk) : Prop where
  s0 : 0 ≤ d.sy
  s1 : d.sy ≤ d.b.length
  s2 : (d.b.length : Int) ≤ 200000
  a0 : -9223372036854775808 ≤ d.at_
  a1 : d.at_ ≤ 9223372036854775807
  p0 : -9223372036854775808 ≤ d.pt
  p1 : d.pt ≤ 9223372036854775807
  r0 : d.ar = true → 0 ≤ d.at_
/-- a disk that lies in block g; its bytes are the value v -/
structure DiskAt (w : World) (g : Nat) (v : Value) (d : Dk) : Prop where
  blk : Blk w g 107 (dcells v d)
  bs : Bs w v d.b
  off : Off v [g]
  ok : d.ok
def Dk.new : Dk := ⟨[], 0, false, 0, 0, false⟩
theorem Dk.new_ok : Dk.new.ok := ⟨by decide, by decide, by decide, by decide, by decide, by decide, by decide, by intro h; cases h⟩
def Dk.left (d : Dk) (p : Int) : Int := d.sy + max 0 (min p (d.b.length - d.sy))
def Dk.cut (d : Dk) (p : Int) : Dk := { d with b := d.b.take (d.left p).toNat }
def Dk.crash (d : Dk) (p : Int) : Dk := { d.cut p with de := true, ar := false }
def Dk.power (d : Dk) : Dk := { d with de := false, sy := d.b.length }
def Dk.last (d : Dk) : Dk := { d with sy := d.b.length }
def Dk.arm (d : Dk) (a p : Int) : Dk := { d with ar := decide (0 ≤ a), at_ := a, pt := p }
theorem Dk.left_bd {d : Dk} (h : d.ok) (p : Int) : d.sy ≤ d.left p ∧ d.left p ≤ d.b.length := by
  have := h.s1
  unfold Dk.left
  omega
theorem Dk.cut_len {d : Dk} (h : d.ok) (p : Int) : ((d.cut p).b.length : Int) = d.left p := by
  have h1 := Dk.left_bd h p
  have h0 := h.s0
  simp only [Dk.cut, List.length_take]
  omega
theorem Dk.cut_ok {d : Dk} (h : d.ok) (p : Int) : (d.cut p).ok := by
  have h1 := Dk.left_bd h p
  have h2 := Dk.cut_len h p
  exact ⟨h.s0, by show d.sy ≤ _; omega, by have := h.s2; omega, h.a0, h.a1, h.p0, h.p1, h.r0⟩
theorem Dk.crash_ok {d : Dk} (h : d.ok) (p : Int) : (d.crash p).ok :=
  have k := Dk.cut_ok h p
  ⟨k.s0, k.s1, k.s2, k.a0, k.a1, k.p0, k.p1, by intro h; cases h⟩
theorem Dk.power_ok {d : Dk} (h : d.ok) : d.power.ok := ⟨by show (0 : Int) ≤ (d.b.length : Int); omega, Int.le_refl _, h.s2, h.a0, h.a1, h.p0, h.p1, h.r0⟩
theorem Dk.last_ok {d : Dk} (h : d.ok) : d.last.ok := ⟨by show (0 : Int) ≤ (d.b.length : Int); omega, Int.le_refl _, h.s2, h.a0, h.a1, h.p0, h.p1, h.r0⟩
/-- what a function that turns a disk leaves: nothing else is written; the disk's bytes are in their old place, or in new memory -/
def DiskTo (w w' : World) (g : Nat) (v : Value) (d : Dk) : Prop :=
  ∃ v', DiskAt w' g v' d ∧ Chg [g] w w' ∧ ∀ k, v'.ownBlock = some k → v.ownBlock = some k ∨ (w.heap.size ≤ k ∧ k < w'.heap.size)
theorem DiskAt.ext {w w' : World} {g : Nat} {v : Value} {d : Dk} (h : DiskAt w g v d) (hx : Ext w w') : DiskAt w' g v d := ⟨h.blk.ext hx, h.bs.ext hx, h.off, h.ok⟩
theorem DiskAt.chg {S : List Nat} {w w' : World} {g : Nat} {v : Value} {d : Dk} (h : DiskAt w g v d) (hx : Chg S w w') (hg : g ∉ S) (hv : Off v S) : DiskAt w' g v d :=
  ⟨h.blk.chg hx hg, h.bs.chg hx hv, h.off, h.ok⟩
/-- cells of the disk's own block are written -/
theorem DiskAt.put {w w' : World} {g : Nat} {v v' : Value} {d d' : Dk} (h : DiskAt w g v d) (hb : Blk w' g 107 (dcells v' d')) (hc : Chg [g] w w') (hv : Bs w' v' d'.b) (ho : Off v' [g]) (hk : d'.ok)
    (hn : ∀ k, v'.ownBlock = some k → v.ownBlock = some k ∨ (w.heap.size ≤ k ∧ k < w'.heap.size)) : DiskTo w w' g v d' := ⟨v', ⟨hb, hv, ho, hk⟩, hc, hn⟩
theorem disk_new (w : World) : Calls Try.prog 16 #[] w fun e w' => e = .returned (.pointer (some ⟨w.heap.size, 0, none⟩)) ∧ w' = w.alloc (.cells (dcells (.slice none 0 0) Dk.new) 107) := by
  go_enter Try.func16, Try.ntmps16
  go_wp2
  go_ret
  exact ⟨rfl, rfl⟩
theorem new_at (w : World) : DiskAt (w.alloc (.cells (dcells (.slice none 0 0) Dk.new) 107)) w.heap.size (.slice none 0 0) Dk.new :=
  ⟨Blk.new w _ _, Bs.nil _, Off.nil _ _, Dk.new_ok⟩
/-- the six cells of a disk -/
theorem DiskAt.cells {w : World} {g : Nat} {v : Value} {d : Dk} (h : DiskAt w g v d) :
    w.cell? ⟨g, 0, none⟩ = some v ∧ w.cell? ⟨g, 1, none⟩ = some (.int .i64 d.sy) ∧ w.cell? ⟨g, 2, none⟩ = some (.bool d.ar) ∧ w.cell? ⟨g, 3, none⟩ = some (.int .i64 d.at_) ∧ w.cell? ⟨g, 4, none⟩ = some (.int .i64 d.pt) ∧ w.cell? ⟨g, 5, none⟩ = some (.bool d.de) := by
  refine ⟨?_, ?_, ?_, ?_, ?_, ?_⟩ <;> exact (h.blk.cell _).trans rfl
theorem DiskAt.free {w : World} {g : Nat} {v : Value} {d : Dk} (h : DiskAt w g v d) (i : Nat) : w.frozen? ⟨g, i, none⟩ = false := h.blk.frozen i
theorem disk_size (g : Nat) (v : Value) (d : Dk) (w : World) (h : DiskAt w g v d) :
    Calls Try.prog 95 #[.pointer (some ⟨g, 0, none⟩)] w fun e w' => e = .returned (.int .i64 d.b.length) ∧ w = w' := by
  obtain ⟨c0, c1, c2, c3, c4, c5⟩ := h.cells
  obtain ⟨A, c, rfl, h1, h2, h3⟩ := h.bs
  go_enter Try.func95, Try.ntmps95
  go_wp2
  go_ret
  exact ⟨rfl, rfl⟩
theorem disk_last (g : Nat) (v : Value) (d : Dk) (w : World) (h : DiskAt w g v d) :
    Calls Try.prog 70 #[.pointer (some ⟨g, 0, none⟩)] w fun e w' => e = .returned (.tuple #[]) ∧ DiskTo w w' g v d.last := by
  obtain ⟨c0, c1, c2, c3, c4, c5⟩ := h.cells
  have f1 := h.free 1
  obtain ⟨A, c, rfl, h1, h2, h3⟩ := id h.bs
  go_enter Try.func70, Try.ntmps70
  go_wp2
  go_end0
  exact ⟨rfl, h.put (h.blk.set_ 1 _) ((Chg.refl _ _).set (by simp) _) ((h.bs.chg ((Chg.refl [g] _).set (by simp) _) h.off)) h.off (Dk.last_ok h.ok) fun k hk => .inl hk⟩
set_option maxHeartbeats 1600000 in
theorem disk_cut (g : Nat) (v : Value) (d : Dk) (p : Int) (w : World) (hD : DiskAt w g v d) (hp : -9223372036854775808 ≤ p ∧ p ≤ 9223372036854775807) :
    Calls Try.prog 69 #[.pointer (some ⟨g, 0, none⟩), .int .i64 p] w fun e w' => e = .returned (.tuple #[]) ∧ DiskTo w w' g v (d.cut p) := by
  obtain ⟨c0, c1, c2, c3, c4, c5⟩ := hD.cells
  have f0 := hD.free 0
  obtain ⟨A, c, rfl, h1, h2, h3⟩ := id hD.bs
  have k0 := hD.ok.s0
  have k1 := hD.ok.s1
  have k2 := hD.ok.s2
  have hq := Dk.left_bd hD.ok p
  obtain ⟨q, hq2⟩ := Int.eq_ofNat_of_zero_le (show 0 ≤ d.left p by omega)
  have e1 : IntKind.i64.wrap ((d.b.length : Int) - d.sy) = (d.b.length : Int) - d.sy := IntWalk.i64_in _ (by omega)
  obtain ⟨X, hX⟩ : ∃ X, X = if 0 < (if (d.b.length : Int) - d.sy < p then (d.b.length : Int) - d.sy else p) then (if (d.b.length : Int) - d.sy < p then (d.b.length : Int) - d.sy else p) else 0 := ⟨_, rfl⟩
  have hXq : d.sy + X = q := by
    have : d.left p = d.sy + X := by
      rw [hX]
      unfold Dk.left
      split <;> split <;> omega
    omega
  have e3 : IntKind.i64.wrap (d.sy + X) = q := by rw [hXq]; exact IntWalk.i64_in _ (by omega)
  have e2 := hX.symm
  have hqn : q ≤ d.b.length := by omega
  have HB := hide (hD.bs.front (k := q) hqn)
  have HQ : Hid ((d.left p).toNat = q) := by unfold Hid; omega
  clear hX hXq hq hq2
  obtain ⟨i0, hi0, hz0, hz1, hz2⟩ := info_parts ti5
  have hsl := fun W => run_sl_h (P := Try.prog) (A := A) (n := d.b.length) (c := c) (kh := .i64) Try.underlying24 hi0 hz1 q rfl (by omega) W
  go_enter Try.func69, Try.ntmps69
  go_wp2
  go_still_tail 24, (by kernel_rfl)
  change wpList _ _ _ _ _ w.drew
  go_wp2
  all_goals
    go_end0
    refine ⟨rfl, DiskAt.put (v' := .slice A q c) hD (hD.blk.set_ 0 _) (((Chg.refl _ _).set (by simp) _).drew) ?_ (hD.off.slice hqn) (Dk.cut_ok hD.ok p) fun k hk => .inl ?_⟩
    · have := (HB.out.chg ((Chg.refl [g] _).set (p := ⟨g, 0, none⟩) (by simp) (.slice A q c)) (hD.off.slice hqn))
      simp only [Dk.cut]
      rw [HQ.out]
      exact this
    · cases A <;> exact hk
set_option maxHeartbeats 800000 in
theorem disk_crash (g : Nat) (v : Value) (d : Dk) (p : Int) (w : World) (h : DiskAt w g v d) (hp : -9223372036854775808 ≤ p ∧ p ≤ 9223372036854775807) :
    Calls Try.prog 26 #[.pointer (some ⟨g, 0, none⟩), .int .i64 p] w fun e w' => e = .returned (.tuple #[]) ∧ DiskTo w w' g v (d.crash p) := by
  go_enter Try.func26, Try.ntmps26
  go_wp2_with fail
  refine (disk_cut g v d p w h hp).mono ?_
  rintro e w1 ⟨rfl, v1, h1, hx1, hn1⟩
  have f5 := h1.free 5
  have f2 := h1.free 2
  obtain ⟨c0, c1, c2, c3, c4, c5⟩ := h1.cells
  go_wp2
  go_end0
  refine ⟨rfl, v1, ⟨(h1.blk.set_ 5 _).set_ 2 _, (h1.bs.chg (((Chg.refl [g] _).set (p := ⟨g, 5, none⟩) (by simp) (.bool true)).set (p := ⟨g, 2, none⟩) (by simp) (.bool false)) h1.off), h1.off, Dk.crash_ok h.ok p⟩, (hx1.set (by simp) _).set (by simp) _, fun k hk => by have := hn1 k hk; simpa [World.setCell] using this⟩
theorem disk_power (g : Nat) (v : Value) (d : Dk) (w : World) (h : DiskAt w g v d) :
    Calls Try.prog 28 #[.pointer (some ⟨g, 0, none⟩)] w fun e w' => e = .returned (.tuple #[]) ∧ DiskTo w w' g v d.power := by
  have f5 := h.free 5
  obtain ⟨c0, c1, c2, c3, c4, c5⟩ := h.cells
  go_enter Try.func28, Try.ntmps28
  go_wp2_with fail
  have h1 : DiskAt (w.setCell ⟨g, 5, none⟩ (.bool false)) g v { d with de := false } := ⟨h.blk.set_ 5 _, h.bs.chg ((Chg.refl [g] _).set (by simp) _) h.off, h.off, ⟨h.ok.s0, h.ok.s1, h.ok.s2, h.ok.a0, h.ok.a1, h.ok.p0, h.ok.p1, h.ok.r0⟩⟩
  refine (disk_last g v _ _ h1).mono ?_
  rintro e w1 ⟨rfl, v1, h2, hx1, hn1⟩
  go_wp2
  go_end0
  exact ⟨rfl, v1, h2, ((Chg.refl [g] _).set (by simp) _).trans hx1, fun k hk => by have := hn1 k hk; simpa [World.setCell] using this⟩
theorem disk_read (g : Nat) (v : Value) (d : Dk) (w : World) (h : DiskAt w g v d) (hd : d.de = false) :
    Calls Try.prog 30 #[.pointer (some ⟨g, 0, none⟩)] w fun e w' => ∃ y, e = .returned (.tuple #[y, .int .i64 0]) ∧ Nw w w' y d.b ∧ Ext w w' := by
  obtain ⟨c0, c1, c2, c3, c4, c5⟩ := h.cells
  rw [hd] at c5
  have hl := h.ok.s2
  go_enter Try.func30, Try.ntmps30
  go_wp2_with (go_at_call 71; refine (clone_b _ d.b w (by omega) h.bs).mono ?_; rintro e w1 ⟨m, Am, cm, hm, rfl, hy, hx⟩)
  go_ret2
  have hm' := hm.out
  subst hm'
  exact ⟨_, rfl, hy, hx⟩
def Dk.op (d : Dk) (size : Int) (whole half : Dk → Dk) : Dk × Int :=
  if d.de = true then (d, 16) else if 200000 < size then (d, 12) else if d.ar = true ∧ d.at_ = 0 then ((half d).crash (half d).pt, 16)
  else (whole (if d.ar = true then { d with at_ := d.at_ - 1 } else d), 0)
theorem DiskTo.same {w : World} {g : Nat} {v : Value} {d : Dk} (h : DiskAt w g v d) : DiskTo w w g v d := ⟨v, h, Chg.refl _ _, fun _ hk => .inl hk⟩
theorem DiskTo.trans {w w1 w2 : World} {g : Nat} {v v1 : Value} {d : Dk} (hc : Chg [g] w w1) (hn : ∀ k, v1.ownBlock = some k → v.ownBlock = some k ∨ (w.heap.size ≤ k ∧ k < w1.heap.size)) (h : DiskTo w1 w2 g v1 d) : DiskTo w w2 g v d := by
  obtain ⟨v2, h2, hc2, hn2⟩ := h
  refine ⟨v2, h2, hc.trans hc2, fun k hk => ?_⟩
  rcases hn2 k hk with h3 | h3
  · rcases hn k h3 with h4 | h4
    · exact .inl h4
    · exact .inr ⟨h4.1, Nat.lt_of_lt_of_le h4.2 hc2.size⟩
  · exact .inr ⟨Nat.le_trans hc.size h3.1, h3.2⟩
theorem DiskTo.eq {w w1 : World} {g : Nat} {v : Value} {d d' : Dk} (h : DiskTo w w1 g v d) (e : d = d') : DiskTo w w1 g v d' := e ▸ h
def RetDisk (w w' : World) (e : Ending) (g : Nat) (v : Value) (r : Dk × Int) : Prop := e = .returned (.int .i64 r.2) ∧ DiskTo w w' g v r.1
set_option maxHeartbeats 1600000 in
theorem writes_b (g : Nat) (v : Value) (d : Dk) (size : Int) (w : World) (h : DiskAt w g v d) (hs : -9223372036854775808 ≤ size ∧ size ≤ 9223372036854775807) (F F' : Nat) (cap cap' : Array Value) (whole half : Dk → Dk)
    (hF : ∀ W, (callFunc F cap).run Try.prog W = .ok (.enter F cap) W) (hF' : ∀ W, (callFunc F' cap').run Try.prog W = .ok (.enter F' cap') W)
    (hw : Hid (size ≤ 200000 → ∀ W v1 d1, DiskAt W g v1 d1 → Chg [g] w W → d1.b = d.b → Calls Try.prog F cap W fun e w' => e = .returned (.tuple #[]) ∧ DiskTo W w' g v1 (whole d1)))
    (hh : Hid (size ≤ 200000 → ∀ W v1 d1, DiskAt W g v1 d1 → Chg [g] w W → d1.b = d.b → Calls Try.prog F' cap' W fun e w' => e = .returned (.tuple #[]) ∧ DiskTo W w' g v1 (half d1))) :
    Calls Try.prog 84 #[.pointer (some ⟨g, 0, none⟩), .int .i64 size, .func (.func F) #[] cap, .func (.func F') #[] cap'] w fun e w' => RetDisk w w' e g v (d.op size whole half) := by
  obtain ⟨c0, c1, c2, c3, c4, c5⟩ := h.cells
  by_cases hd : d.de = true
  · have E : Hid (d.op size whole half = (d, 16)) := if_pos hd
    rw [hd] at c5
    go_enter Try.func84, Try.ntmps84
    go_wp2
    go_ret
    unfold RetDisk
    rw [E.out]
    exact ⟨rfl, .same h⟩
  · have hd' : d.de = false := by simpa using hd
    rw [hd'] at c5
    by_cases hb : 200000 < size
    · have E : Hid (d.op size whole half = (d, 12)) := by unfold Hid Dk.op; rw [if_neg hd, if_pos hb]
      clear hd hd'
      go_enter Try.func84, Try.ntmps84
      go_wp2
      go_ret
      unfold RetDisk
      rw [E.out]
      exact ⟨rfl, .same h⟩
    · have hb' : size ≤ 200000 := by omega
      by_cases ha : d.ar = true
      · rw [ha] at c2
        by_cases hz : d.at_ = 0
        · have E : Hid (d.op size whole half = ((half d).crash (half d).pt, 16)) := by unfold Hid Dk.op; rw [if_neg hd, if_neg hb, if_pos ⟨ha, hz⟩]
          rw [hz] at c3
          clear hd hd' ha hz
          go_enter Try.func84, Try.ntmps84
          go_wp2_with fail
          refine (hh.out hb' w v d h (Chg.refl _ _) rfl).mono ?_
          rintro e w1 ⟨rfl, v1, h1, hx1, hn1⟩
          obtain ⟨c0', c1', c2', c3', c4', c5'⟩ := h1.cells
          go_wp2_with fail
          refine (disk_crash g v1 _ _ w1 h1 ⟨h1.ok.p0, h1.ok.p1⟩).mono ?_
          rintro e w2 ⟨rfl, h2⟩
          go_wp2
          go_ret
          unfold RetDisk
          rw [E.out]
          exact ⟨rfl, .trans hx1 hn1 h2⟩
        · have E : Hid (d.op size whole half = (whole { d with at_ := d.at_ - 1 }, 0)) := by unfold Hid Dk.op; rw [if_neg hd, if_neg hb, if_neg (fun hc => hz hc.2), if_pos ha]
          have hz2 : (d.at_ == 0) = false := by simpa using hz
          have hr0 := h.ok.r0 ha
          have ha1 := h.ok.a1
          have f3 := h.free 3
          have h1 : DiskAt (w.setCell ⟨g, 3, none⟩ (.int .i64 (d.at_ - 1))) g v { d with at_ := d.at_ - 1 } :=
            ⟨h.blk.set_ 3 _, h.bs.chg ((Chg.refl [g] _).set (by simp) _) h.off, h.off, ⟨h.ok.s0, h.ok.s1, h.ok.s2, by show _ ≤ d.at_ - 1; omega, by show d.at_ - 1 ≤ _; omega, h.ok.p0, h.ok.p1, fun _ => by show 0 ≤ d.at_ - 1; omega⟩⟩
          have H1 := hide h1
          clear hd hd' ha hz h1
          go_enter Try.func84, Try.ntmps84
          go_wp2_with fail
          refine (hw.out hb' _ v _ H1.out ((Chg.refl [g] _).set (by simp) _) rfl).mono ?_
          rintro e w1 ⟨rfl, v1, h1, hx1, hn1⟩
          go_wp2
          go_ret
          unfold RetDisk
          rw [E.out]
          exact ⟨rfl, v1, h1, ((Chg.refl [g] _).set (by simp) _).trans hx1, fun k hk => by have := hn1 k hk; simpa [World.setCell] using this⟩
      · have E : Hid (d.op size whole half = (whole d, 0)) := by unfold Hid Dk.op; rw [if_neg hd, if_neg hb, if_neg (fun hc => ha hc.1), if_neg ha]
        have ha' : d.ar = false := by simpa using ha
        rw [ha'] at c2
        clear hd hd' ha ha'
        go_enter Try.func84, Try.ntmps84
        go_wp2_with fail
        refine (hw.out hb' w v d h (Chg.refl _ _) rfl).mono ?_
        rintro e w1 ⟨rfl, h1⟩
        go_wp2
        go_ret
        unfold RetDisk
        rw [E.out]
        exact ⟨rfl, h1⟩
def Dk.app (m : Bytes) (d : Dk) : Dk := { d with b := d.b ++ m }
theorem Dk.app_ok {d : Dk} (h : d.ok) (m : Bytes) (hl : (d.b.length : Int) + m.length ≤ 200000) : (d.app m).ok :=
  ⟨h.s0, by have := h.s1; simp only [Dk.app, List.length_append]; omega, by simp only [Dk.app, List.length_append]; omega, h.a0, h.a1, h.p0, h.p1, h.r0⟩
theorem cell_box {w : World} {g : Nat} {t : TypeId} {x : Value} (h : Blk w g t #[x]) : w.cell? ⟨g, 0, none⟩ = some x := (h.cell 0).trans rfl
set_option maxHeartbeats 1600000 in
theorem append1_b (g n1 n2 : Nat) (v y : Value) (d : Dk) (m : Bytes) (w : World) (h : DiskAt w g v d) (h1 : Blk w n1 44 #[.pointer (some ⟨g, 0, none⟩)]) (h2 : Blk w n2 24 #[y]) (hy : Bs w y m) (hl : (d.b.length : Int) + m.length ≤ 200000) :
    Calls Try.prog 94 #[.pointer (some ⟨n1, 0, none⟩), .pointer (some ⟨n2, 0, none⟩)] w fun e w' => e = .returned (.tuple #[]) ∧ DiskTo w w' g v (d.app m) := by
  obtain ⟨c0, c1, c2, c3, c4, c5⟩ := h.cells
  have b1 := cell_box h1
  have b2 := cell_box h2
  have f0 := h.free 0
  have hvb := h.bs
  obtain ⟨A, c, rfl, -, -, -⟩ := id h.bs
  obtain ⟨A2, c2, rfl, -, -, -⟩ := id hy
  go_enter Try.func94, Try.ntmps94
  go_wp2
  refine Rg.regionT Try.checked.mixed 14 9 (by kernel_rfl) [
    (fun x_ _ => x_ = .pointer (some ⟨g, 0, none⟩)),
    (fun x_ _ => x_ = .pointer (some ⟨g, 0, none⟩)),
    (fun x_ _ => x_ = .pointer (some ⟨g, 0, none⟩)),
    (fun x_ _ => x_ = .pointer (some ⟨g, 0, none⟩)),
    (fun x_ _ => x_ = .pointer (some ⟨g, 0, none⟩)),
    (fun x_ _ => x_ = .slice A d.b.length c),
    (fun x_ _ => x_ = .slice A2 m.length c2),
    (fun z W => Parts W z [d.b, m]),
    (fun z W => Nw w W z (d.b ++ m))] (fun W => Ext w W) Ext rfl rfl rfl
    ?st (Ext.rfl' w).drew' ?ob ?en
  case st => exact ⟨fun _ _ _ h _ => h, fun _ _ _ h _ => h, fun _ _ _ h _ => h, fun _ _ _ h _ => h, fun _ _ _ h _ => h, fun _ _ _ h _ => h, fun _ _ _ h _ => h, fun _ _ _ h hx => h.ext hx, fun _ _ _ h hx => own_ext h hx, trivial⟩
  case ob =>
    refine ⟨Rg.at_run [0] rfl ?_, ?_⟩
    · intro ρ W hR ⟨q0, _⟩
      replace q0 : ρ 0 = .pointer (some ⟨n1, 0, none⟩) := q0
      refine ⟨rfl, ?_⟩
      have hc := cell_box (h1.ext hR)
      exact Rg.run_ok (v := .pointer (some ⟨g, 0, none⟩)) (by simp [execOp, Rg.ev, go_sem, q0, hc]) ⟨rfl, hR, Ext.rfl' _⟩
    refine ⟨Rg.at_run [0] rfl ?_, ?_⟩
    · intro ρ W hR ⟨q0, _⟩
      replace q0 : ρ 0 = .pointer (some ⟨n1, 0, none⟩) := q0
      refine ⟨rfl, ?_⟩
      have hc := cell_box (h1.ext hR)
      exact Rg.run_ok (v := .pointer (some ⟨g, 0, none⟩)) (by simp [execOp, Rg.ev, go_sem, q0, hc]) ⟨rfl, hR, Ext.rfl' _⟩
    refine ⟨Rg.at_run [3] rfl ?_, ?_⟩
    · intro ρ W hR ⟨q3, _⟩
      replace q3 : ρ 3 = .pointer (some ⟨g, 0, none⟩) := q3
      refine ⟨rfl, ?_⟩
      exact Rg.run_ok (v := .pointer (some ⟨g, 0, none⟩)) (by simp [execOp, Rg.ev, go_sem, q3]) ⟨rfl, hR, Ext.rfl' _⟩
    refine ⟨Rg.at_run [4] rfl ?_, ?_⟩
    · intro ρ W hR ⟨q4, _⟩
      replace q4 : ρ 4 = .pointer (some ⟨g, 0, none⟩) := q4
      refine ⟨rfl, ?_⟩
      exact Rg.run_ok (v := .pointer (some ⟨g, 0, none⟩)) (by simp [execOp, Rg.ev, go_sem, q4]) ⟨rfl, hR, Ext.rfl' _⟩
    refine ⟨Rg.at_run [5] rfl ?_, ?_⟩
    · intro ρ W hR ⟨q5, _⟩
      replace q5 : ρ 5 = .pointer (some ⟨g, 0, none⟩) := q5
      refine ⟨rfl, ?_⟩
      exact Rg.run_ok (v := .pointer (some ⟨g, 0, none⟩)) (by simp [execOp, Rg.ev, go_sem, q5]) ⟨rfl, hR, Ext.rfl' _⟩
    refine ⟨Rg.at_run [6] rfl ?_, ?_⟩
    · intro ρ W hR ⟨q6, _⟩
      replace q6 : ρ 6 = .pointer (some ⟨g, 0, none⟩) := q6
      refine ⟨rfl, ?_⟩
      have hc := (h.ext hR).cells.1
      exact Rg.run_ok (v := .slice A d.b.length c) (by simp [execOp, Rg.ev, go_sem, q6, hc]) ⟨rfl, hR, Ext.rfl' _⟩
    refine ⟨Rg.at_run [1] rfl ?_, ?_⟩
    · intro ρ W hR ⟨q1, _⟩
      replace q1 : ρ 1 = .pointer (some ⟨n2, 0, none⟩) := q1
      refine ⟨rfl, ?_⟩
      have hc := cell_box (h2.ext hR)
      exact Rg.run_ok (v := .slice A2 m.length c2) (by simp [execOp, Rg.ev, go_sem, q1, hc]) ⟨rfl, hR, Ext.rfl' _⟩
    refine ⟨Rg.at_run [7, 8] rfl ?_, ?_⟩
    · intro ρ W hR ⟨q7, q8, _⟩
      replace q7 : ρ 7 = .slice A d.b.length c := q7
      replace q8 : ρ 8 = .slice A2 m.length c2 := q8
      refine ⟨rfl, ?_⟩
      refine Rg.run_ok (v := .slice (some ⟨W.heap.size, 0, none⟩) 2 2) (W' := W.alloc (  .cells #[.slice A d.b.length c, .slice A2 m.length c2] 24)) (by simp [execOp, Rg.ev, go_sem, q7, q8]) ⟨?_, hR.alloc' _, (Ext.rfl' _).alloc' _⟩
      exact Parts.two _ rfl (hvb.ext hR) (hy.ext hR)
    refine ⟨Rg.at_run [9] rfl ?_, ?_⟩
    · intro ρ W hR ⟨q9, _⟩
      replace q9 : (fun z W => Parts W z [d.b, m]) (ρ 9) W := q9
      refine ⟨rfl, ?_⟩
      refine Rg.run_enter (by simp [execOp, Rg.ev, go_sem, q9]; exact ⟨⟨rfl, rfl⟩, rfl⟩) ?_
      refine (concat_b _ [d.b, m] _ (by simp [lens]; omega) (by simp) q9).mono ?_
      rintro e w2 ⟨k, Ak, ck, hk, rfl, hz, hxx⟩
      have hk' := hk.out
      subst hk'
      exact ⟨_, rfl, by simpa using hz.trans hR, hR.trans' hxx, hxx⟩
    trivial
  case en =>
    intro tm W hR hsz hk
    obtain ⟨l⟩ := tm
    replace hsz : l.length = 14 := hsz
    obtain ⟨u0, u1, u2, u3, u4, u5, u6, u7, u8, u9, u10, u11, u12, u13, rfl⟩ : ∃ u0 u1 u2 u3 u4 u5 u6 u7 u8 u9 u10 u11 u12 u13, l = [u0, u1, u2, u3, u4, u5, u6, u7, u8, u9, u10, u11, u12, u13] := by
      clear hk
      obtain ⟨u0, l0, e0, h0⟩ := Rg.cons_of hsz
      obtain ⟨u1, l1, e1, h1⟩ := Rg.cons_of h0
      obtain ⟨u2, l2, e2, h2⟩ := Rg.cons_of h1
      obtain ⟨u3, l3, e3, h3⟩ := Rg.cons_of h2
      obtain ⟨u4, l4, e4, h4⟩ := Rg.cons_of h3
      obtain ⟨u5, l5, e5, h5⟩ := Rg.cons_of h4
      obtain ⟨u6, l6, e6, h6⟩ := Rg.cons_of h5
      obtain ⟨u7, l7, e7, h7⟩ := Rg.cons_of h6
      obtain ⟨u8, l8, e8, h8⟩ := Rg.cons_of h7
      obtain ⟨u9, l9, e9, h9⟩ := Rg.cons_of h8
      obtain ⟨u10, l10, e10, h10⟩ := Rg.cons_of h9
      obtain ⟨u11, l11, e11, h11⟩ := Rg.cons_of h10
      obtain ⟨u12, l12, e12, h12⟩ := Rg.cons_of h11
      obtain ⟨u13, l13, e13, h13⟩ := Rg.cons_of h12
      exact ⟨u0, u1, u2, u3, u4, u5, u6, u7, u8, u9, u10, u11, u12, u13, by rw [e0, e1, e2, e3, e4, e5, e6, e7, e8, e9, e10, e11, e12, e13, List.eq_nil_of_length_eq_zero h13]⟩
    obtain rfl : u2 = .pointer (some ⟨g, 0, none⟩) := hk 2
    have k10 : (fun z W => Nw w W z (d.b ++ m)) u10 W := hk 10
    clear hk hsz
    have hF := h.ext hR
    obtain ⟨e0, -, -, -, -, -⟩ := hF.cells
    have g0 := hF.free 0
    replace k10 : Nw w W u10 (d.b ++ m) := k10
    obtain ⟨A3, c3', rfl, -, -⟩ := own_slice (id k10)
    rw [List.length_append] at k10
    have hoff : Off (.slice A3 (d.b.length + m.length) c3') [g] := k10.off (by simp; exact h.blk.lt)
    go_wp2
    go_end0
    exact ⟨rfl, .slice A3 (d.b.length + m.length) c3', ⟨hF.blk.set_ 0 _, k10.bs.chg ((Chg.refl [g] _).set (by simp) _) hoff, hoff, Dk.app_ok h.ok m hl⟩, (hR.chg [g]).set (by simp) _, fun k hk => .inr (by have := k10.lt k hk; simpa [World.setCell] using this)⟩
end Go.Proofs.Ytlblgopfdadalaa
