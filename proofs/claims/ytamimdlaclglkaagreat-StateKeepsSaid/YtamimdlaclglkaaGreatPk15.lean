import Derived.Test.YtamimdlaclglkaaGreatPk12
import Derived.Test.YtamimdlaclglkaaGreatPk14
/- sess.Keep. -/
namespace Go.Proofs.YtamimdlaclglkaaGreat
set_option linter.unusedVariables false
set_option linter.unusedSimpArgs false
set_option linter.unnecessarySimpa false
set_option maxRecDepth 100000
open Go.RowKit
theorem keep1_b (d : Dn) (gc go : Nat) (q h : Int) (W : World) (hd : U64 d.seq) (hq : U64 q) (hh : U64 h) (hgc : gc < W.heap.size) (hgo : go < W.heap.size) (h1 : W.cell? ⟨gc, 2, none⟩ = some (.int .u64 q)) (h2 : W.cell? ⟨go, 1, none⟩ = some (.int .u64 h)) :
    Calls Tryz.prog 63 #[.agg #[.int .u64 d.seq, .int .i64 d.an.err, str d.an.text], .pointer (some ⟨gc, 0, none⟩), .pointer (some ⟨go, 0, none⟩)] W fun e W' => e = .returned (.bool (decide (d.seq = q) || stale d.seq h)) ∧ Ext W W' := by
  by_cases he : d.seq = q
  · have he2 : (d.seq == q) = true := by simpa using he
    have HE : Hid ((decide (d.seq = q) || stale d.seq h) = true) := by unfold Hid; simp [he]
    rw [HE.out]
    go_enter Tryz.func63, Tryz.ntmps63
    go_wp2
    go_ret
    exact ⟨rfl, (Ext.rfl' W).alloc' _⟩
  · have he2 : (d.seq == q) = false := by simpa using he
    have HE : Hid ((decide (d.seq = q) || stale d.seq h) = stale d.seq h) := by unfold Hid; simp [he]
    rw [HE.out]
    clear he
    have HS := hide (fun W => stale_b d.seq h W hd hh)
    go_enter Tryz.func63, Tryz.ntmps63
    go_wp2_with fail
    refine (HS.out _).mono ?_
    rintro e w' ⟨rfl, rfl⟩
    go_wp2
    go_ret
    exact ⟨rfl, (Ext.rfl' W).alloc' _⟩
abbrev X4 (n : Nat) : Avoid := fun k => k = n ∨ k = n + 3
theorem x4_lt {n m k : Nat} (h : n < m) (h3 : n + 3 < m) (hk : X4 n k) : k < m := by
  rcases hk with rfl | rfl
  · exact h
  · exact h3
theorem X4.ge {n k : Nat} (h : X4 n k) : n ≤ k := by rcases h with rfl | rfl <;> omega
theorem _root_.Or.ge {n k : Nat} (h : k = n ∨ k = n + 3) : n ≤ k := by omega
/-- what the state's variable holds, after so many of the two stores -/
def RK (g : Nat) (W7 : World) (s : St) (vl vs : Value) (ss : List Se) : Nat → World → Prop
  | 0, W => Blk W g 28 #[.int .u64 s.now, .int .u64 s.count, vl, vs] ∧ Chg [g] W7 W
  | 1, W => (∃ u, Blk W g 28 #[.int .u64 s.now, .int .u64 s.count, u, vs] ∧ Own 53 lnE W7 W (X4 g) u s.links) ∧ Chg [g] W7 W
  | _, W => (∃ u v, Blk W g 28 #[.int .u64 s.now, .int .u64 s.count, u, v] ∧ Own 53 lnE W7 W (X4 g) u s.links ∧ Own 56 seE W7 W (X4 g) v ss) ∧ Chg [g] W7 W
section
variable {g i : Nat} {w W7 W W2 : World} {s : St} {vl vs : Value} {ss : List Se}
theorem RK.chg (h : RK g W7 s vl vs ss i W) : Chg [g] W7 W := by
  match i, h with
  | 0, h => exact h.2
  | 1, h => exact h.2
  | _ + 2, h => exact h.2
theorem RK.size (h : RK g W7 s vl vs ss i W) : W7.heap.size ≤ W.heap.size := h.chg.size
theorem RK.lt (h : RK g W7 s vl vs ss i W) : g < W.heap.size := by
  match i, h with
  | 0, h => exact h.1.lt
  | 1, h => obtain ⟨⟨u, h, _⟩, _⟩ := h; exact h.lt
  | _ + 2, h => obtain ⟨⟨u, v, h, _⟩, _⟩ := h; exact h.lt
theorem RK.x4 {k : Nat} (h : RK g W7 s vl vs ss i W) (h4 : g + 3 < W7.heap.size) (hk : X4 g k) : k < W.heap.size := x4_lt h.lt (Nat.lt_of_lt_of_le h4 h.size) hk
theorem RK.ext (h : RK g W7 s vl vs ss i W) (hx : Ext W W2) : RK g W7 s vl vs ss i W2 := by
  match i, h with
  | 0, h => exact ⟨h.1.ext hx, h.2.trans (hx.chg _)⟩
  | 1, h => obtain ⟨⟨u, h1, h2⟩, h3⟩ := h; exact ⟨⟨u, h1.ext hx, h2.ext hx⟩, h3.trans (hx.chg _)⟩
  | _ + 2, h => obtain ⟨⟨u, v, h1, h2, h4⟩, h3⟩ := h; exact ⟨⟨u, v, h1.ext hx, h2.ext hx, h4.ext hx⟩, h3.trans (hx.chg _)⟩
theorem RK.ext7 (h : RK g W7 s vl vs ss i W) (hx : Ext w W7) (hg : w.heap.size ≤ g) : Ext w W := hx.then_ h.chg (by simpa using hg)
theorem RK.cell {p : Addr} (h : RK g W7 s vl vs ss i W) (hp : p.block < W7.heap.size) (hn : p.block ≠ g) : W.cell? p = W7.cell? p := h.chg.cell hp (by simpa using hn)
theorem RK.blk0 (h : RK g W7 s vl vs ss 0 W) : Blk W g 28 #[.int .u64 s.now, .int .u64 s.count, vl, vs] := h.1
theorem RK.at3 (h : RK g W7 s vl vs ss 1 W) : ∃ u3, W.frozen? ⟨g, 3, none⟩ = false ∧ W.cell? ⟨g, 3, none⟩ = some u3 := by
  obtain ⟨⟨u, h, _⟩, _⟩ := h
  exact ⟨vs, h.frozen _, (h.cell 3).trans rfl⟩
theorem RK.start (h : Blk W7 g 28 #[.int .u64 s.now, .int .u64 s.count, vl, vs]) : RK g W7 s vl vs ss 0 W7.drew := ⟨h, (Chg.refl _ _).drew⟩
theorem RK.st1 {u : Value} (h : RK g W7 s vl vs ss 0 W) (hu : Own 53 lnE W7 W (X4 g) u s.links) : RK g W7 s vl vs ss 1 (W.setCell ⟨g, 2, none⟩ u) :=
  ⟨⟨u, h.1.set_ 2 u, hu.chg ((Chg.refl [g] W).set (by simp) u) (fun k hk _ => .inl (by simpa using hk))⟩, h.2.set (by simp) u⟩
theorem RK.st2 {u : Value} (h : RK g W7 s vl vs ss 1 W) (hu : Own 56 seE W7 W (X4 g) u ss) : RK g W7 s vl vs ss 2 (W.setCell ⟨g, 3, none⟩ u) := by
  obtain ⟨⟨v, h1, h2⟩, h3⟩ := h
  exact ⟨⟨v, u, h1.set_ 3 u, h2.chg ((Chg.refl [g] W).set (by simp) u) (fun k hk _ => .inl (by simpa using hk)), hu.chg ((Chg.refl [g] W).set (by simp) u) (fun k hk _ => .inl (by simpa using hk))⟩, h3.set (by simp) u⟩
end
theorem new4 (w : World) (T1 T2 T3 T4 : TypeId) (c1 c2 c3 c4 : Array Value) : Blk ((((w.alloc (.cells c1 T1)).alloc (.cells c2 T2)).alloc (.cells c3 T3)).alloc (.cells c4 T4)) w.heap.size T1 c1 ∧ Blk ((((w.alloc (.cells c1 T1)).alloc (.cells c2 T2)).alloc (.cells c3 T3)).alloc (.cells c4 T4)) (w.heap.size + 1) T2 c2 ∧
    Blk ((((w.alloc (.cells c1 T1)).alloc (.cells c2 T2)).alloc (.cells c3 T3)).alloc (.cells c4 T4)) (w.heap.size + 2) T3 c3 ∧ Blk ((((w.alloc (.cells c1 T1)).alloc (.cells c2 T2)).alloc (.cells c3 T3)).alloc (.cells c4 T4)) (w.heap.size + 3) T4 c4 ∧ Ext w ((((w.alloc (.cells c1 T1)).alloc (.cells c2 T2)).alloc (.cells c3 T3)).alloc (.cells c4 T4)) ∧
    ((((w.alloc (.cells c1 T1)).alloc (.cells c2 T2)).alloc (.cells c3 T3)).alloc (.cells c4 T4)).heap.size = w.heap.size + 4 := by
  obtain ⟨h1, h2, h3, hx⟩ := new3 w T1 T2 T3 c1 c2 c3
  have h4 := Blk.new (((w.alloc (.cells c1 T1)).alloc (.cells c2 T2)).alloc (.cells c3 T3)) T4 c4
  rw [show (((w.alloc (.cells c1 T1)).alloc (.cells c2 T2)).alloc (.cells c3 T3)).heap.size = w.heap.size + 3 by simp] at h4
  exact ⟨h1.alloc _, h2.alloc _, h3.alloc _, h4, hx.alloc' _, by simp⟩
theorem put4 {W : World} {g : Nat} {T : TypeId} {c0 c1 c2 c3 : Value} (h : Blk W g T #[c0, c1, c2, c3]) (a b c d : Value) : Blk ((((W.setCell ⟨g, 0, none⟩ a).setCell ⟨g, 1, none⟩ b).setCell ⟨g, 2, none⟩ c).setCell ⟨g, 3, none⟩ d) g T #[a, b, c, d] ∧
    Chg [g] W ((((W.setCell ⟨g, 0, none⟩ a).setCell ⟨g, 1, none⟩ b).setCell ⟨g, 2, none⟩ c).setCell ⟨g, 3, none⟩ d) :=
  ⟨(((h.set_ 0 a).set_ 1 b).set_ 2 c).set_ 3 d, ((((Chg.refl [g] W).set (by simp) a).set (by simp) b).set (by simp) c).set (by simp) d⟩
end Go.Proofs.YtamimdlaclglkaaGreat


