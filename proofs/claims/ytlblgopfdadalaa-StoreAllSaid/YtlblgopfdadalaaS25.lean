/- A part of the proof of 'StoreAll'. -/
import Derived.Test.YtlblgopfdadalaaS24
import Derived.ArgAppend
namespace Go.Proofs.Ytlblgopfdadalaa
set_option linter.unusedVariables false
set_option linter.unusedSimpArgs false
set_option linter.unnecessarySimpa false
set_option maxRecDepth 100000
open Go.RowKit
section
variable (n1 g : Nat) (T : TypeId) (xs new : List Value)
/-- all but block g is as it was; a row that was made since may have been written behind its first cells -/
def Gr (W W' : World) : Prop := W.heap.size ≤ W'.heap.size ∧ ∀ k, k < W.heap.size → k ≠ g → W'.heap[k]? = W.heap[k]? ∨
  (n1 ≤ k ∧ ∃ cs cs' : Array Value, W.heap[k]? = some (.cells cs T (0, 0)) ∧ W'.heap[k]? = some (.cells cs' T (0, 0)) ∧ cs.size ≠ new.length ∧ cs'.size = cs.size ∧ cs'.toList.take (xs.length + new.length) = xs ++ new)
/-- an empty literal -/
def Row0 (v : Value) (W : World) : Prop := ∃ b, v = .slice (some ⟨b, 0, none⟩) 0 0 ∧ n1 ≤ b ∧ b ≠ g ∧ Blk W b T #[]
/-- a literal of one element -/
def Lit1 (v : Value) (W : World) : Prop := ∃ b, v = .slice (some ⟨b, 0, none⟩) 1 1 ∧ n1 ≤ b ∧ b ≠ g ∧ Blk W b T new.toArray
/-- a copy, of n elements -/
def Row1 (n : Nat) (v : Value) (W : World) : Prop := ∃ b cap cur, v = .slice (some ⟨b, 0, none⟩) n cap ∧ n1 ≤ b ∧ b ≠ g ∧ Blk W b T cur ∧ n ≤ cap ∧ cap ≤ maxLen ∧ cur.size = cap * new.length ∧ cur.toList.take xs.length = xs ∧ (n = 0 → cap = 0)
/-- the same with one more behind -/
def Row2 (n : Nat) (v : Value) (W : World) : Prop := ∃ b cap cur, v = .slice (some ⟨b, 0, none⟩) (n + 1) cap ∧ n1 ≤ b ∧ b ≠ g ∧ Blk W b T cur ∧ n + 1 ≤ cap ∧ cap ≤ maxLen ∧ cur.size = cap * new.length ∧ cur.toList.take (xs.length + new.length) = xs ++ new
end
section
variable {n1 g : Nat} {T : TypeId} {xs new : List Value} {W W' : World} {v : Value}
theorem Gr.of_chg (h : Chg [g] W W') : Gr n1 g T xs new W W' := ⟨h.size, fun k hk hn => .inl (h.block k hk (by simpa using hn))⟩
theorem Gr.of_ext (h : Ext W W') : Gr n1 g T xs new W W' := .of_chg (h.chg _)
theorem Gr.refl (W : World) : Gr n1 g T xs new W W := .of_ext (Ext.rfl' _)
theorem Gr.blk {b : Nat} {cur : Array Value} (h : Gr n1 g T xs new W W') (hb : Blk W b T cur) (hne : b ≠ g) : Blk W' b T cur ∨ ∃ cs', Blk W' b T cs' ∧ cur.size ≠ new.length ∧ cs'.size = cur.size ∧ cs'.toList.take (xs.length + new.length) = xs ++ new := by
  rcases h.2 b hb.lt hne with h1 | ⟨-, cs, cs', h1, h2, h3⟩
  · exact .inl (h1.trans hb)
  · unfold Blk at hb
    rw [hb] at h1
    simp only [Option.some.injEq, Obj.cells.injEq, and_true, true_and] at h1
    subst h1
    exact .inr ⟨cs', h2, h3⟩
theorem Row0.last (hp : 0 < new.length) (h : Row0 n1 g T v W) (hG : Gr n1 g T xs new W W') : Row0 n1 g T v W' := by
  obtain ⟨b, rfl, h1, h2, h3⟩ := h
  rcases hG.blk h3 h2 with h4 | ⟨cs', -, -, h5, h6⟩
  · exact ⟨b, rfl, h1, h2, h4⟩
  · exfalso
    have : cs'.toList = [] := List.eq_nil_of_length_eq_zero (by simpa using h5)
    rw [this] at h6
    have h7 := congrArg List.length h6
    simp at h7
    omega
theorem Lit1.last (h : Lit1 n1 g T new v W) (hG : Gr n1 g T xs new W W') : Lit1 n1 g T new v W' := by
  obtain ⟨b, rfl, h1, h2, h3⟩ := h
  rcases hG.blk h3 h2 with h4 | ⟨cs', -, h5, -⟩
  · exact ⟨b, rfl, h1, h2, h4⟩
  · simp at h5
theorem Row1.last {n : Nat} (h : Row1 n1 g T xs new n v W) (hG : Gr n1 g T xs new W W') : Row1 n1 g T xs new n v W' := by
  obtain ⟨b, cap, cur, rfl, h1, h2, h3, h4, h5, h6, h7, h8⟩ := h
  rcases hG.blk h3 h2 with h9 | ⟨cs', h9, -, h10, h11⟩
  · exact ⟨b, cap, cur, rfl, h1, h2, h9, h4, h5, h6, h7, h8⟩
  · refine ⟨b, cap, cs', rfl, h1, h2, h9, h4, h5, h10.trans h6, ?_, h8⟩
    have := congrArg (List.take xs.length) h11
    rw [List.take_take, Nat.min_eq_left (by omega), List.take_left] at this
    exact this
theorem Row2.last {n : Nat} (h : Row2 n1 g T xs new n v W) (hG : Gr n1 g T xs new W W') : Row2 n1 g T xs new n v W' := by
  obtain ⟨b, cap, cur, rfl, h1, h2, h3, h4, h5, h6, h7⟩ := h
  rcases hG.blk h3 h2 with h9 | ⟨cs', h9, -, h10, h11⟩
  · exact ⟨b, cap, cur, rfl, h1, h2, h9, h4, h5, h6, h7⟩
  · exact ⟨b, cap, cs', rfl, h1, h2, h9, h4, h5, h10.trans h6, h11⟩
theorem row0_new (T : TypeId) (hn : n1 ≤ W.heap.size) (hg : g < n1) : Row0 n1 g T (.slice (some ⟨W.heap.size, 0, none⟩) 0 0) (W.alloc (.cells #[] T)) := ⟨_, rfl, hn, by omega, Blk.new W T #[]⟩
theorem lit1_new (T : TypeId) (hn : n1 ≤ W.heap.size) (hg : g < n1) : Lit1 n1 g T new (.slice (some ⟨W.heap.size, 0, none⟩) 1 1) (W.alloc (.cells new.toArray T)) := ⟨_, rfl, hn, by omega, Blk.new W T _⟩
theorem take_allV {l m : List Value} {n : Nat} (h : l.take n = m) (hl : m.length = n) : ∀ (j : Nat) (u : Value), m[j]? = some u → l[j]? = some u := by
  intro j u hu
  have hj := (List.getElem?_eq_some_iff.1 hu).1
  rw [← h, List.getElem?_take, if_pos (by omega)] at hu
  exact hu
variable {z : Value} {bytes : Nat}
/-- the first append -/
theorem run_row1 {P : Program} (t ty : TypeId) (i : TypeInfo) (ht : P.underlying t = some (.slice T)) (hi : P.info? T = some i) (hz : i.zero = some z) (hsize : i.size = new.length) (hby : i.bytes = bytes) (hzs : z.cells.size = new.length) (hp : 0 < new.length)
    (hn : n1 ≤ W.heap.size) (hg : g < n1) (h : Row0 n1 g T v W) {B : Nat} {A : Option Addr} {n c : Nat} (hr : Reads W B new.length A n xs) (h1 : ∀ u ∈ xs, u.oneCell' = true) (h63 : n ≤ 100000) (hbytes : bytes ≤ 1000) :
    ∃ v' w', (Builtin.append_ #[t, t] ty #[v, .slice A n c]).run P W = .ok v' w' ∧ Row1 n1 g T xs new n v' w' ∧ Ext W w' := by
  obtain ⟨b, rfl, k1, k2, k3⟩ := h
  rcases Nat.eq_zero_or_pos n with h0 | h0
  · subst h0
    have hxs : xs = [] := List.eq_nil_of_length_eq_zero (by simpa using hr.1)
    subst hxs
    have hrun : (Builtin.append_ #[t, t] ty #[.slice (some ⟨b, 0, none⟩) 0 0, .slice A 0 c]).run P W = .ok (.slice (some ⟨b, 0, none⟩) 0 0) W := by
      cases A <;> simp [Builtin.append_, run_underlying ht, sizeOf, typeInfo, hi, Builtin.lenOf, Builtin.firstCells, loadCells, loadCellsFrom, storeCells]
    exact ⟨_, _, hrun, ⟨b, 0, #[], rfl, k1, k2, k3, Nat.le_refl _, by simp [maxLen], by simp, by simp, fun _ => rfl⟩, Ext.rfl' _⟩
  · obtain ⟨ad, rfl, hb, hc⟩ := hr.2 h0
    have hbb : (0 + n) * bytes ≤ 140737488355328 := by rw [Nat.zero_add]; exact Nat.le_trans (Nat.mul_le_mul h63 hbytes) (by decide)
    obtain ⟨v', w', hrun, hown, hgr⟩ := run_append_arg_grows (P := P) W t ty T i z new.length bytes ht hi hz hsize hby hzs hp ⟨b, 0, none⟩ 0 0 [] (by simp) (by simp) ad n c xs hr.1 hc (by omega) (by simp [maxLen]; omega) hbb
    have hgr' : W.grownBy w' none := hgr
    have hxx : Ext W w' := ⟨hgr.os, hgr.tape, hgr.output, hgr.size, fun k hk => hgr.block k hk (by simp)⟩
    rw [List.nil_append, Nat.zero_add] at hown
    obtain ⟨hl, ⟨-, he⟩ | ⟨b', cap, cur, rfl, e1, e2, e3, e4, e5, e6⟩⟩ := hown
    · omega
    · exact ⟨_, _, hrun, ⟨b', cap, cur, rfl, by omega, by omega, e2, e3, e4, e5, by rw [hl]; exact e6, fun h => by omega⟩, hxx⟩
/-- the second -/
theorem run_row2 {P : Program} (t ty : TypeId) (i : TypeInfo) (ht : P.underlying t = some (.slice T)) (hi : P.info? T = some i) (hz : i.zero = some z) (hsize : i.size = new.length) (hby : i.bytes = bytes) (hzs : z.cells.size = new.length) (hp : 0 < new.length)
    (hn : n1 ≤ W.heap.size) (hg : g < n1) {n : Nat} (hxs : xs.length = n * new.length) (h1 : ∀ u ∈ new, u.oneCell' = true) (h63 : n ≤ 100000) (hbytes : bytes ≤ 1000) (h : Row1 n1 g T xs new n v W) {y : Value} (hy : Lit1 n1 g T new y W) :
    ∃ v' w' S, (Builtin.append_ #[t, t] ty #[v, y]).run P W = .ok v' w' ∧ Row2 n1 g T xs new n v' w' ∧ Gr n1 g T xs new W w' ∧ Chg S W w' ∧ ∀ k, k ∈ S → n1 ≤ k := by
  obtain ⟨b, cap, cur, rfl, k1, k2, k3, k4, k5, k6, k7, k8⟩ := h
  obtain ⟨b2, rfl, m1, m2, m3⟩ := hy
  have hbb : (n + 1) * bytes ≤ 140737488355328 := Nat.le_trans (Nat.mul_le_mul (Nat.succ_le_succ h63) hbytes) (by decide)
  have hadd : ∀ (k j : Nat), (⟨k, 0, none⟩ : Addr).add j = ⟨k, j, none⟩ := fun k j => by unfold Addr.add; split <;> simp_all
  have hnews : ∀ j u, new[j]? = some u → W.cell? ((⟨b2, 0, none⟩ : Addr).add j) = some u := fun j u hu => by
    rw [hadd, m3.cell]; simpa using hu
  have holds : ∀ j u, xs[j]? = some u → W.cell? ((⟨b, 0, none⟩ : Addr).add j) = some u := fun j u hu => by
    rw [hadd, k3.cell, ← Array.getElem?_toList]; exact take_allV k7 rfl j u hu
  by_cases hroom : n + 1 ≤ cap
  · have hcs : cur.size = cap * new.length := k6
    have hle : (n + 1) * new.length ≤ cap * new.length := Nat.mul_le_mul_right _ hroom
    rw [Nat.succ_mul] at hle
    have hrun := run_append_room_cells (P := P) W t ty T i ht hi b 0 n cap ⟨b2, 0, none⟩ 1 1 new (by rw [hsize]; simp) hnews h1 hroom (fun j hj => by
      rw [hsize, k3.cell]; simp; omega) (fun j hj => k3.frozen _)
    rw [hsize, Nat.zero_add] at hrun
    have key : ∀ (l : List Value) (o : Nat) (w : World) (cs : Array Value), Blk w b T cs → o + l.length ≤ cs.size → ∃ cs', Blk (w.setCells b o l) b T cs' ∧ cs'.size = cs.size ∧ cs'.toList.take (o + l.length) = cs.toList.take o ++ l ∧ Chg [b] w (w.setCells b o l) := by
      intro l
      induction l with
      | nil => intro o w cs hB _; exact ⟨cs, hB, rfl, by simp, Chg.refl _ _⟩
      | cons x l ih =>
        intro o w cs hB hs
        simp only [List.length_cons] at hs
        obtain ⟨cs', i1, i2, i3, i4⟩ := ih (o + 1) (w.setCell ⟨b, o, none⟩ x) (cs.setIfInBounds o x) (hB.set_ o x) (by simp; omega)
        refine ⟨cs', i1, i2.trans (by simp), ?_, ((Chg.refl [b] w).set (p := ⟨b, o, none⟩) (by simp) x).trans i4⟩
        rw [List.length_cons, show o + (l.length + 1) = o + 1 + l.length by omega, i3]
        simp only [Array.toList_setIfInBounds]
        rw [List.take_succ_eq_append_getElem (by simp; omega), List.take_set_of_le (Nat.le_refl _), List.getElem_set_self]
        simp
    obtain ⟨cs', i1, i2, i3, i4⟩ := key new (n * new.length) W cur k3 (by omega)
    have hn0 : 0 < n := by
      rcases Nat.eq_zero_or_pos n with h0 | h0
      · have := k8 h0; omega
      · exact h0
    have h5 : cs'.toList.take (xs.length + new.length) = xs ++ new := by rw [hxs, i3, ← hxs, k7]
    refine ⟨_, _, [b], hrun, ⟨b, cap, cs', rfl, k1, k2, i1, hroom, k5, i2.trans k6, h5⟩, ⟨i4.size, fun k hk hne => ?_⟩, i4, fun k hk => by rw [List.mem_singleton.1 hk]; exact k1⟩
    by_cases hkb : k = b
    · subst hkb
      refine .inr ⟨k1, cur, cs', k3, i1, ?_, i2, h5⟩
      have : 2 * new.length ≤ cap * new.length := Nat.mul_le_mul_right _ (by omega)
      omega
    · exact .inl (i4.block k hk (by simpa using hkb))
  · obtain ⟨v', w', hrun, hown, hgr⟩ := run_append_arg_grows (P := P) W t ty T i z new.length bytes ht hi hz hsize hby hzs hp ⟨b, 0, none⟩ n cap xs hxs holds ⟨b2, 0, none⟩ 1 1 new (by simp) hnews (by omega) (by simp [maxLen]; omega) hbb
    have hxx : Ext W w' := ⟨hgr.os, hgr.tape, hgr.output, hgr.size, fun k hk => hgr.block k hk (by simp)⟩
    obtain ⟨hl, ⟨-, he⟩ | ⟨b', cap', cur', rfl, e1, e2, e3, e4, e5, e6⟩⟩ := hown
    · omega
    · rw [List.length_append] at hl
      exact ⟨_, _, [], hrun, ⟨b', cap', cur', rfl, by omega, by omega, e2, e3, e4, e5, by rw [hl]; exact e6⟩, .of_ext hxx, hxx.chg _, by simp⟩
end
end Go.Proofs.Ytlblgopfdadalaa
