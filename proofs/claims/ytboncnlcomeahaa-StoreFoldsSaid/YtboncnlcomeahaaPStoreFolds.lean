import Derived.Test.YtboncnlcomeahaaPk11
import Derived.ArgAppend
import Derived.Test.YtboncnlcomeahaaPk21
import Derived.Test.YtboncnlcomeahaaPk16
import Derived.RegionTactic
import Derived.Deep.DeepCutAuto
import Derived.Deep.CutBlock
import Derived.Test.YtboncnlcomeahaaPk33
import Derived.Test.YtboncnlcomeahaaPk25
import Derived.Test.YtboncnlcomeahaaPk7
/- Append onto an empty literal: what was there stays as it was. -/
namespace Go.Proofs.Ytboncnlcomeahaa
set_option linter.unusedVariables false
set_option linter.unusedSimpArgs false
set_option linter.unnecessarySimpa false
set_option maxRecDepth 100000
open Go.RowKit
section
variable {α : Type} {T : TypeId} {E : Enc α} {w0 w w' : World} {X : Avoid} {m : List α}
theorem run_own0 {z : Value} {bytes : Nat} (ei : Elt T E z bytes) (t ty : TypeId) (ht : Try.prog.underlying t = some (.slice T)) {g : Nat} (h : Own T E w0 w X (.slice (some ⟨g, 0, none⟩) 0 0) []) (hx0 : Ext w0 w)
    {y : Value} (hy : Enc.Sl E w (fun k => X k ∨ k = g) y m) (hX : ¬ X w.heap.size) (hlen : m.length * bytes ≤ 140737488355328) (hl2 : m.length ≤ 140737488355328) :
    ∃ A c w', (Builtin.append_ #[t, t] ty #[.slice (some ⟨g, 0, none⟩) 0 0, y]).run Try.prog w = .ok (.slice A m.length c) w' ∧ Own T E w0 w' X (.slice A m.length c) m ∧ Ext w w' := by
  obtain ⟨v', w', hrun, hown, -, -, -⟩ := run_own ei t ty ht h hx0 (hy.mono fun k _ hk => hk.elim .inl fun h => .inr (Option.some.inj h).symm) hX (by simpa using hlen) (by simpa using hl2)
  rw [List.nil_append] at hown
  obtain ⟨A', c', rfl, -, -⟩ := hown.form
  refine ⟨A', c', w', hrun, hown, ?_⟩
  obtain ⟨A, c, css, rfl, k1, k2, k3, k4, k5⟩ := hy
  obtain ⟨i0, hi, hz0, hz1, hz2⟩ := info_parts ei.info
  rcases Nat.eq_zero_or_pos m.length with h0 | h0
  · rw [h0] at hrun
    have hr : (Builtin.append_ #[t, t] ty #[.slice (some ⟨g, 0, none⟩) 0 0, .slice A 0 c]).run Try.prog w = .ok (.slice (some ⟨g, 0, none⟩) 0 0) w := by
      cases A <;> simp [Builtin.append_, run_underlying ht, sizeOf, typeInfo, hi, Builtin.lenOf, Builtin.firstCells, loadCells, loadCellsFrom, storeCells]
    rw [hr] at hrun
    injection hrun with _ h2
    rw [← h2]
    exact Ext.rfl' _
  · obtain ⟨ad, rfl, _, hc⟩ := k3.2 h0
    have hr := run_append_grow (P := Try.prog) w t ty T i0 z ht hi hz0 ⟨g, 0, none⟩ 0 0 [] (by simp) (by simp) ad m.length c css.flatten (by rw [k3.1, hz1]) hc (by omega) (by omega) (by
      have : Builtin.nextslicecap (0 + m.length) 0 = m.length := by unfold Builtin.nextslicecap; rw [if_pos (by omega)]; omega
      rw [this, hz2]; omega)
    rw [hr] at hrun
    injection hrun with _ h2
    rw [← h2]
    exact ((Ext.rfl' w).drew').alloc' _
/-- a slice whose elements lie apart; its own block may lie anywhere -/
def SlR (E : Enc α) (w : World) (X : Avoid) (v : Value) (l : List α) : Prop :=
  ∃ A c css, v = .slice A l.length c ∧ l.length ≤ c ∧ c ≤ maxLen ∧ Reads w w.heap.size E.size A l.length css.flatten ∧ Enc.Each E w X css l
theorem SlR.ext {v : Value} {l : List α} (h : SlR E w X v l) (hx : Ext w w') : SlR E w' X v l := by
  obtain ⟨A, c, css, h1, h2, h3, h4, h5⟩ := h
  exact ⟨A, c, css, h1, h2, h3, h4.ext hx, h5.ext hx⟩
theorem SlR.mono {Y : Avoid} {v : Value} {l : List α} (h : SlR E w X v l) (hs : ∀ k, k < w.heap.size → Y k → X k) : SlR E w Y v l := by
  obtain ⟨A, c, css, h1, h2, h3, h4, h5⟩ := h
  exact ⟨A, c, css, h1, h2, h3, h4, h5.mono hs⟩
/-- one element in a block of its own -/
theorem SlR.one (T : TypeId) {cs : List Value} {a : α} (h : E.rep w X cs a) : SlR E (w.alloc (.cells cs.toArray T)) X (.slice (some ⟨w.heap.size, 0, none⟩) 1 1) [a] := by
  refine ⟨_, 1, [cs], rfl, Nat.le_refl _, by simp [maxLen], ?_, Enc.Each.single (E.ext h ((Ext.rfl' w).alloc' _))⟩
  refine ⟨by simp [E.len h], fun _ => ⟨_, rfl, by simp, fun j u hu => ?_⟩⟩
  have hadd : (⟨w.heap.size, 0, none⟩ : Addr).add j = ⟨w.heap.size, j, none⟩ := by unfold Addr.add; split <;> simp_all
  rw [hadd, cell_of_row _ _ _ _ _ _ (heap_alloc_new w _)]
  simpa using hu
variable {v : Value} {l : List α}
theorem run_ownR {z : Value} {bytes : Nat} (ei : Elt T E z bytes) (t ty : TypeId) (ht : Try.prog.underlying t = some (.slice T)) (h : Own T E w0 w X v l) (hx0 : Ext w0 w)
    {y : Value} (hy : SlR E w (fun k => X k ∨ v.ownBlock = some k) y m) (hX : ¬ X w.heap.size) (hlen : (l.length + m.length) * bytes ≤ 140737488355328) (hl2 : l.length + m.length ≤ 140737488355328) :
    ∃ v' w', (Builtin.append_ #[t, t] ty #[v, y]).run Try.prog w = .ok v' w' ∧ Own T E w0 w' X v' (l ++ m) ∧ Ext w0 w' ∧ Chg v.ownBlock.toList w w' ∧ (v'.ownBlock = v.ownBlock ∨ v'.ownBlock = some w.heap.size) := by
  obtain ⟨css, h1, h2, h3⟩ := h
  obtain ⟨A, c, cs2, rfl, k1, k2, k3, k5⟩ := hy
  obtain ⟨i0, hi, hz0, hz1, hz2⟩ := info_parts ei.info
  obtain ⟨v', w', hrun, hown, hg, hb⟩ := run_append_any (P := Try.prog) w w0.heap.size t ty T i0 z E.size bytes ht hi hz0 hz1 hz2 ei.zs ei.pos v l.length css.flatten h1 w.heap.size A m.length c cs2.flatten k3 k5.one (by simp [maxLen]; omega) hlen hx0.size
  have hc := hg.chg'
  refine ⟨v', w', hrun, ⟨css ++ cs2, by rw [List.length_append, List.flatten_append]; exact hown, ?_, ?_⟩, hx0.then_ hc (fun i hi => by simp at hi; exact (h1.lt i hi).1), hc, hb⟩
  · have j1 := h2.mono (Y := fun k => (X k ∨ v'.ownBlock = some k) ∨ v.ownBlock = some k) fun k hk hy => by
      rcases hy with (hy | hy) | hy
      · exact .inl hy
      · rcases hb with e | e
        · exact .inr (e.symm.trans hy)
        · rw [e] at hy; have := Option.some.inj hy; omega
      · exact .inr hy
    have j2 := k5.mono (Y := fun k => (X k ∨ v'.ownBlock = some k) ∨ v.ownBlock = some k) fun k hk hy => by
      rcases hy with (hy | hy) | hy
      · exact .inl hy
      · rcases hb with e | e
        · exact .inr (e.symm.trans hy)
        · rw [e] at hy; have := Option.some.inj hy; omega
      · exact .inr hy
    have j3 := (j1.app j2).chg hc fun k hk _ => .inr (by simpa using hk)
    exact j3.mono fun k _ hk => .inl hk
  · intro k hk hx
    rcases hb with e | e
    · exact h3 k (e.symm.trans hk) hx
    · rw [e] at hk; have := Option.some.inj hk; subst this; exact hX hx
theorem wpList_ownR {ops : Array Oper} {rest : List Oper} {o : Oper} {a : Act} {Q : Exit → Act → World → Prop} {z : Value} {bytes : Nat} (ei : Elt T E z bytes) (t : TypeId) (ht : Try.prog.underlying t = some (.slice T)) (hgd : o.guard = none) (s x : Operand)
    (ho : o.op = .call { callee := .builtin .append, args := #[s, x], argTypes := #[t, t] }) (h : Own T E w0 w X v l) (hs : a.eval s = v) (hx0 : Ext w0 w)
    {y : Value} (hx : a.eval x = y) (hy : SlR E w (fun k => X k ∨ v.ownBlock = some k) y m) (hX : ¬ X w.heap.size) (hlen : (l.length + m.length) * bytes ≤ 140737488355328) (hl2 : l.length + m.length ≤ 140737488355328)
    (hK : ∀ (k : List α) (A : Option Addr) (c : Nat) (w' : World), Hid (k = l ++ m) → Own T E w0 w' X (.slice A k.length c) k → Ext w0 w' → Chg v.ownBlock.toList w w' → wpList Try.prog ops Q rest (a.put o.dst (.slice A k.length c)) w') : wpList Try.prog ops Q (o :: rest) a w :=
  wpList_plain hgd fun _ hK' => by
    obtain ⟨v', w', hrun, h2, h3, h4, h5⟩ := run_ownR ei t o.type ht h hx0 hy hX hlen hl2
    obtain ⟨A, c, rfl, _, _⟩ := h2.form
    unfold Oper.wp execOp
    simp only [ho, resolve, invoke, builtin, Sem.run_bind, Sem.run_pure, Result.andThen_ok, List.map_toArray, List.map_cons, List.map_nil, hs, hx, hrun]
    exact hK' _ _ (hK (l ++ m) A c w' (hide rfl) h2 h3 h4)
end
end Go.Proofs.Ytboncnlcomeahaa

/- append(append([]T{}, k...), e) in one statement that draws its order: what each step leaves, and what lasts. -/
namespace Go.Proofs.Ytboncnlcomeahaa
set_option linter.unusedVariables false
set_option linter.unusedSimpArgs false
set_option linter.unnecessarySimpa false
set_option maxRecDepth 100000
open Go.RowKit
section
variable (n1 g : Nat) (T : TypeId) (xs new : List Value)
/-- all but block g is as it was; a row that was made since may have been written behind its first cells -/
def Gr (W W' : World) : Prop := W.heap.size ≤ W'.heap.size ∧ ∀ k, k < W.heap.size → k ≠ g → W'.heap[k]? = W.heap[k]? ∨
  (n1 ≤ k ∧ ∃ cs cs' : Array Value, W.heap[k]? = some (.cells cs T (0, 0)) ∧ W'.heap[k]? = some (.cells cs' T (0, 0)) ∧ cs.size ≠ new.length ∧ cs'.size = cs.size ∧ cs'.toList.take (xs.length + new.length) = xs ++ new)
/-- an empty literal -/
def Row0 (v : Value) (W : World) : Prop := ∃ b, v = .slice (some ⟨b, 0, none⟩) 0 0 ∧ n1 ≤ b ∧ b ≠ g ∧ Blk W b T #[]
/-- a literal of one element -/
def Lit1 (v : Value) (W : World) : Prop := ∃ b, v = .slice (some ⟨b, 0, none⟩) 1 1 ∧ n1 ≤ b ∧ b ≠ g ∧ Blk W b T new.toArray
/-- a copy, of n elements -/
def Row1 (n : Nat) (v : Value) (W : World) : Prop := ∃ b cap cur, v = .slice (some ⟨b, 0, none⟩) n cap ∧ n1 ≤ b ∧ b ≠ g ∧ Blk W b T cur ∧ n ≤ cap ∧ cap ≤ maxLen ∧ cur.size = cap * new.length ∧ cur.toList.take xs.length = xs ∧ (n = 0 → cap = 0)
/-- the same with one more behind -/
def Row2 (n : Nat) (v : Value) (W : World) : Prop := ∃ b cap cur, v = .slice (some ⟨b, 0, none⟩) (n + 1) cap ∧ n1 ≤ b ∧ b ≠ g ∧ Blk W b T cur ∧ n + 1 ≤ cap ∧ cap ≤ maxLen ∧ cur.size = cap * new.length ∧ cur.toList.take (xs.length + new.length) = xs ++ new
end
section
variable {n1 g : Nat} {T : TypeId} {xs new : List Value} {W W' : World} {v : Value}
theorem Gr.of_chg (h : Chg [g] W W') : Gr n1 g T xs new W W' := ⟨h.size, fun k hk hn => .inl (h.block k hk (by simpa using hn))⟩
theorem Gr.of_ext (h : Ext W W') : Gr n1 g T xs new W W' := .of_chg (h.chg _)
theorem Gr.refl (W : World) : Gr n1 g T xs new W W := .of_ext (Ext.rfl' _)
theorem Gr.blk {b : Nat} {cur : Array Value} (h : Gr n1 g T xs new W W') (hb : Blk W b T cur) (hne : b ≠ g) : Blk W' b T cur ∨ ∃ cs', Blk W' b T cs' ∧ cur.size ≠ new.length ∧ cs'.size = cur.size ∧ cs'.toList.take (xs.length + new.length) = xs ++ new := by
  rcases h.2 b hb.lt hne with h1 | ⟨-, cs, cs', h1, h2, h3⟩
  · exact .inl (h1.trans hb)
  · unfold Blk at hb
    rw [hb] at h1
    simp only [Option.some.injEq, Obj.cells.injEq, and_true, true_and] at h1
    subst h1
    exact .inr ⟨cs', h2, h3⟩
theorem Row0.last (hp : 0 < new.length) (h : Row0 n1 g T v W) (hG : Gr n1 g T xs new W W') : Row0 n1 g T v W' := by
  obtain ⟨b, rfl, h1, h2, h3⟩ := h
  rcases hG.blk h3 h2 with h4 | ⟨cs', -, -, h5, h6⟩
  · exact ⟨b, rfl, h1, h2, h4⟩
  · exfalso
    have : cs'.toList = [] := List.eq_nil_of_length_eq_zero (by simpa using h5)
    rw [this] at h6
    have h7 := congrArg List.length h6
    simp at h7
    omega
theorem Lit1.last (h : Lit1 n1 g T new v W) (hG : Gr n1 g T xs new W W') : Lit1 n1 g T new v W' := by
  obtain ⟨b, rfl, h1, h2, h3⟩ := h
  rcases hG.blk h3 h2 with h4 | ⟨cs', -, h5, -⟩
  · exact ⟨b, rfl, h1, h2, h4⟩
  · simp at h5
theorem Row1.last {n : Nat} (h : Row1 n1 g T xs new n v W) (hG : Gr n1 g T xs new W W') : Row1 n1 g T xs new n v W' := by
  obtain ⟨b, cap, cur, rfl, h1, h2, h3, h4, h5, h6, h7, h8⟩ := h
  rcases hG.blk h3 h2 with h9 | ⟨cs', h9, -, h10, h11⟩
  · exact ⟨b, cap, cur, rfl, h1, h2, h9, h4, h5, h6, h7, h8⟩
  · refine ⟨b, cap, cs', rfl, h1, h2, h9, h4, h5, h10.trans h6, ?_, h8⟩
    have := congrArg (List.take xs.length) h11
    rw [List.take_take, Nat.min_eq_left (by omega), List.take_left] at this
    exact this
theorem Row2.last {n : Nat} (h : Row2 n1 g T xs new n v W) (hG : Gr n1 g T xs new W W') : Row2 n1 g T xs new n v W' := by
  obtain ⟨b, cap, cur, rfl, h1, h2, h3, h4, h5, h6, h7⟩ := h
  rcases hG.blk h3 h2 with h9 | ⟨cs', h9, -, h10, h11⟩
  · exact ⟨b, cap, cur, rfl, h1, h2, h9, h4, h5, h6, h7⟩
  · exact ⟨b, cap, cs', rfl, h1, h2, h9, h4, h5, h10.trans h6, h11⟩
theorem row0_new (T : TypeId) (hn : n1 ≤ W.heap.size) (hg : g < n1) : Row0 n1 g T (.slice (some ⟨W.heap.size, 0, none⟩) 0 0) (W.alloc (.cells #[] T)) := ⟨_, rfl, hn, by omega, Blk.new W T #[]⟩
theorem lit1_new (T : TypeId) (hn : n1 ≤ W.heap.size) (hg : g < n1) : Lit1 n1 g T new (.slice (some ⟨W.heap.size, 0, none⟩) 1 1) (W.alloc (.cells new.toArray T)) := ⟨_, rfl, hn, by omega, Blk.new W T _⟩
theorem take_allV {l m : List Value} {n : Nat} (h : l.take n = m) (hl : m.length = n) : ∀ (j : Nat) (u : Value), m[j]? = some u → l[j]? = some u := by
  intro j u hu
  have hj := (List.getElem?_eq_some_iff.1 hu).1
  rw [← h, List.getElem?_take, if_pos (by omega)] at hu
  exact hu
variable {z : Value} {bytes : Nat}
/-- the first append -/
theorem run_row1 {P : Program} (t ty : TypeId) (i : TypeInfo) (ht : P.underlying t = some (.slice T)) (hi : P.info? T = some i) (hz : i.zero = some z) (hsize : i.size = new.length) (hby : i.bytes = bytes) (hzs : z.cells.size = new.length) (hp : 0 < new.length)
    (hn : n1 ≤ W.heap.size) (hg : g < n1) (h : Row0 n1 g T v W) {B : Nat} {A : Option Addr} {n c : Nat} (hr : Reads W B new.length A n xs) (h1 : ∀ u ∈ xs, u.oneCell' = true) (h63 : n ≤ 100000) (hbytes : bytes ≤ 1000) :
    ∃ v' w', (Builtin.append_ #[t, t] ty #[v, .slice A n c]).run P W = .ok v' w' ∧ Row1 n1 g T xs new n v' w' ∧ Ext W w' := by
  obtain ⟨b, rfl, k1, k2, k3⟩ := h
  rcases Nat.eq_zero_or_pos n with h0 | h0
  · subst h0
    have hxs : xs = [] := List.eq_nil_of_length_eq_zero (by simpa using hr.1)
    subst hxs
    have hrun : (Builtin.append_ #[t, t] ty #[.slice (some ⟨b, 0, none⟩) 0 0, .slice A 0 c]).run P W = .ok (.slice (some ⟨b, 0, none⟩) 0 0) W := by
      cases A <;> simp [Builtin.append_, run_underlying ht, sizeOf, typeInfo, hi, Builtin.lenOf, Builtin.firstCells, loadCells, loadCellsFrom, storeCells]
    exact ⟨_, _, hrun, ⟨b, 0, #[], rfl, k1, k2, k3, Nat.le_refl _, by simp [maxLen], by simp, by simp, fun _ => rfl⟩, Ext.rfl' _⟩
  · obtain ⟨ad, rfl, hb, hc⟩ := hr.2 h0
    have hbb : (0 + n) * bytes ≤ 140737488355328 := by rw [Nat.zero_add]; exact Nat.le_trans (Nat.mul_le_mul h63 hbytes) (by decide)
    obtain ⟨v', w', hrun, hown, hgr⟩ := run_append_arg_grows (P := P) W t ty T i z new.length bytes ht hi hz hsize hby hzs hp ⟨b, 0, none⟩ 0 0 [] (by simp) (by simp) ad n c xs hr.1 hc (by omega) (by simp [maxLen]; omega) hbb
    have hgr' : W.grownBy w' none := hgr
    have hxx : Ext W w' := ⟨hgr.os, hgr.tape, hgr.output, hgr.size, fun k hk => hgr.block k hk (by simp)⟩
    rw [List.nil_append, Nat.zero_add] at hown
    obtain ⟨hl, ⟨-, he⟩ | ⟨b', cap, cur, rfl, e1, e2, e3, e4, e5, e6⟩⟩ := hown
    · omega
    · exact ⟨_, _, hrun, ⟨b', cap, cur, rfl, by omega, by omega, e2, e3, e4, e5, by rw [hl]; exact e6, fun h => by omega⟩, hxx⟩
/-- the second -/
theorem run_row2 {P : Program} (t ty : TypeId) (i : TypeInfo) (ht : P.underlying t = some (.slice T)) (hi : P.info? T = some i) (hz : i.zero = some z) (hsize : i.size = new.length) (hby : i.bytes = bytes) (hzs : z.cells.size = new.length) (hp : 0 < new.length)
    (hn : n1 ≤ W.heap.size) (hg : g < n1) {n : Nat} (hxs : xs.length = n * new.length) (h1 : ∀ u ∈ new, u.oneCell' = true) (h63 : n ≤ 100000) (hbytes : bytes ≤ 1000) (h : Row1 n1 g T xs new n v W) {y : Value} (hy : Lit1 n1 g T new y W) :
    ∃ v' w' S, (Builtin.append_ #[t, t] ty #[v, y]).run P W = .ok v' w' ∧ Row2 n1 g T xs new n v' w' ∧ Gr n1 g T xs new W w' ∧ Chg S W w' ∧ ∀ k, k ∈ S → n1 ≤ k := by
  obtain ⟨b, cap, cur, rfl, k1, k2, k3, k4, k5, k6, k7, k8⟩ := h
  obtain ⟨b2, rfl, m1, m2, m3⟩ := hy
  have hbb : (n + 1) * bytes ≤ 140737488355328 := Nat.le_trans (Nat.mul_le_mul (Nat.succ_le_succ h63) hbytes) (by decide)
  have hadd : ∀ (k j : Nat), (⟨k, 0, none⟩ : Addr).add j = ⟨k, j, none⟩ := fun k j => by unfold Addr.add; split <;> simp_all
  have hnews : ∀ j u, new[j]? = some u → W.cell? ((⟨b2, 0, none⟩ : Addr).add j) = some u := fun j u hu => by
    rw [hadd, m3.cell]; simpa using hu
  have holds : ∀ j u, xs[j]? = some u → W.cell? ((⟨b, 0, none⟩ : Addr).add j) = some u := fun j u hu => by
    rw [hadd, k3.cell, ← Array.getElem?_toList]; exact take_allV k7 rfl j u hu
  by_cases hroom : n + 1 ≤ cap
  · have hcs : cur.size = cap * new.length := k6
    have hle : (n + 1) * new.length ≤ cap * new.length := Nat.mul_le_mul_right _ hroom
    rw [Nat.succ_mul] at hle
    have hrun := run_append_room_cells (P := P) W t ty T i ht hi b 0 n cap ⟨b2, 0, none⟩ 1 1 new (by rw [hsize]; simp) hnews h1 hroom (fun j hj => by
      rw [hsize, k3.cell]; simp; omega) (fun j hj => k3.frozen _)
    rw [hsize, Nat.zero_add] at hrun
    have key : ∀ (l : List Value) (o : Nat) (w : World) (cs : Array Value), Blk w b T cs → o + l.length ≤ cs.size → ∃ cs', Blk (w.setCells b o l) b T cs' ∧ cs'.size = cs.size ∧ cs'.toList.take (o + l.length) = cs.toList.take o ++ l ∧ Chg [b] w (w.setCells b o l) := by
      intro l
      induction l with
      | nil => intro o w cs hB _; exact ⟨cs, hB, rfl, by simp, Chg.refl _ _⟩
      | cons x l ih =>
        intro o w cs hB hs
        simp only [List.length_cons] at hs
        obtain ⟨cs', i1, i2, i3, i4⟩ := ih (o + 1) (w.setCell ⟨b, o, none⟩ x) (cs.setIfInBounds o x) (hB.set_ o x) (by simp; omega)
        refine ⟨cs', i1, i2.trans (by simp), ?_, ((Chg.refl [b] w).set (p := ⟨b, o, none⟩) (by simp) x).trans i4⟩
        rw [List.length_cons, show o + (l.length + 1) = o + 1 + l.length by omega, i3]
        simp only [Array.toList_setIfInBounds]
        rw [List.take_succ_eq_append_getElem (by simp; omega), List.take_set_of_le (Nat.le_refl _), List.getElem_set_self]
        simp
    obtain ⟨cs', i1, i2, i3, i4⟩ := key new (n * new.length) W cur k3 (by omega)
    have hn0 : 0 < n := by
      rcases Nat.eq_zero_or_pos n with h0 | h0
      · have := k8 h0; omega
      · exact h0
    have h5 : cs'.toList.take (xs.length + new.length) = xs ++ new := by rw [hxs, i3, ← hxs, k7]
    refine ⟨_, _, [b], hrun, ⟨b, cap, cs', rfl, k1, k2, i1, hroom, k5, i2.trans k6, h5⟩, ⟨i4.size, fun k hk hne => ?_⟩, i4, fun k hk => by rw [List.mem_singleton.1 hk]; exact k1⟩
    by_cases hkb : k = b
    · subst hkb
      refine .inr ⟨k1, cur, cs', k3, i1, ?_, i2, h5⟩
      have : 2 * new.length ≤ cap * new.length := Nat.mul_le_mul_right _ (by omega)
      omega
    · exact .inl (i4.block k hk (by simpa using hkb))
  · obtain ⟨v', w', hrun, hown, hgr⟩ := run_append_arg_grows (P := P) W t ty T i z new.length bytes ht hi hz hsize hby hzs hp ⟨b, 0, none⟩ n cap xs hxs holds ⟨b2, 0, none⟩ 1 1 new (by simp) hnews (by omega) (by simp [maxLen]; omega) hbb
    have hxx : Ext W w' := ⟨hgr.os, hgr.tape, hgr.output, hgr.size, fun k hk => hgr.block k hk (by simp)⟩
    obtain ⟨hl, ⟨-, he⟩ | ⟨b', cap', cur', rfl, e1, e2, e3, e4, e5, e6⟩⟩ := hown
    · omega
    · rw [List.length_append] at hl
      exact ⟨_, _, [], hrun, ⟨b', cap', cur', rfl, by omega, by omega, e2, e3, e4, e5, by rw [hl]; exact e6⟩, .of_ext hxx, hxx.chg _, by simp⟩
end
end Go.Proofs.Ytboncnlcomeahaa

/- ref21.Records. -/
namespace Go.Proofs.Ytboncnlcomeahaa
set_option linter.unusedVariables false
set_option linter.unusedSimpArgs false
set_option linter.unnecessarySimpa false
set_option maxRecDepth 100000
open Go.RowKit
set_option maxHeartbeats 6400000 in
theorem rrecords_b (X : Avoid) (k : Kp) (vs ve : Value) (n : Nat) (w : World) (hX : ∀ j, X j → j < w.heap.size) (hkw : k.wide) (hks : k.small n) (hs : Enc.BsX w X vs k.snap.state) (he : Enc.Sl enE w X ve k.ents) (hn : n ≤ 1000) :
    Calls Try.prog 17 #[.agg (kpcells k vs ve).toArray] w fun e w' => RetRecs X w w' e (krecs k) := by
  obtain ⟨As0, cS0, rfl, -, -, -⟩ := id hs.1
  obtain ⟨Ae0, cE0, rfl, -, -⟩ := he.form
  have hB := Blk.new w 33 (kpcells k (.slice As0 k.snap.state.length cS0) (.slice Ae0 k.ents.length cE0)).toArray
  have hxw : Ext w (w.alloc (.cells (kpcells k (.slice As0 k.snap.state.length cS0) (.slice Ae0 k.ents.length cE0)).toArray 33)) := (Ext.rfl' _).alloc' _
  obtain ⟨g, hg⟩ : ∃ g, w.heap.size = g := ⟨_, rfl⟩
  rw [hg] at hB
  have hXl : ∀ j, X j → j < g := fun j hj => by rw [← hg]; exact hX j hj
  go_enter Try.func17, Try.ntmps17
  go_upto_region 1 with fail
  generalize (w.alloc (.cells (kpcells k (.slice As0 k.snap.state.length cS0) (.slice Ae0 k.ents.length cE0)).toArray 33)) = w1 at *
  try rw [hg]
  have hr1 := hB.lt
  have hX1 : ∀ j, (X j ∨ j = g) → j < w1.heap.size := fun j hj => by rcases hj with h | h; (have := hXl j h; omega); omega
  have hs3 := hs.ext hxw
  have he3 := he.ext hxw
  have hx3 := hxw
  have hB3 := hB
  generalize w1 = W3 at *
  have b0 := (hB3.cell 0).trans rfl
  have b1 := (hB3.cell 1).trans rfl
  obtain ⟨gl, hgl⟩ : ∃ g_, W3.heap.size = g_ := ⟨_, rfl⟩
  have hglg : g < gl := by rw [← hgl]; exact hB3.lt
  have hgl3 : W3.heap.size = gl := hgl
  have hX3 : ¬ X gl := fun h => by have := hXl _ h; omega
  have hown := Own.lit1S (E := reE) (w0 := W3) (w := W3) (X := X) (cs := recells (rHard k.hard) (.slice none 0 0) (.slice none 0 0)) (a := rHard k.hard) 38 (Ext.rfl' _) gl hgl hX3 (re_rep.2 ⟨_, _, rfl, rHard_wide hkw, Enc.BsX.nil _ _, Enc.BsX.nil _ _⟩)
  have hz : Ext W3 (W3.alloc (.cells #[.int .i64 1, .int .u64 k.hard.term, .int .i64 k.hard.vote, .int .u64 0, .slice none 0 0, .int .u64 0, .int .u64 0, .int .u64 0, .slice none 0 0] 38)) := (Ext.rfl' _).alloc' _
  change Own _ _ _ (W3.alloc (.cells #[.int .i64 1, .int .u64 k.hard.term, .int .i64 k.hard.vote, .int .u64 0, .slice none 0 0, .int .u64 0, .int .u64 0, .int .u64 0, .slice none 0 0] 38)) _ _ _ at hown
  go_upto_region 2 with fail
  try rw [hgl]
  clear b0 b1 hgl
  generalize (W3.alloc (.cells #[.int .i64 1, .int .u64 k.hard.term, .int .i64 k.hard.vote, .int .u64 0, .slice none 0 0, .int .u64 0, .int .u64 0, .int .u64 0, .slice none 0 0] 38)) = W4 at *
  have b2 := ((hB3.ext hz).cell 2).trans rfl
  go_upto_if 12 with fail
  go_cut [3] (fun vo wx => ∃ (l : List Rec) (A : Option Addr) (c : Nat), vo = .slice A l.length c ∧ Hid (l = krecs1 k) ∧ Own 38 reE W3 wx X (.slice A l.length c) l ∧ Ext W3 wx)
  case first =>
    rcases Bool.eq_false_or_eq_true (k.snap.index != 0) with h0 | h0
    · have b3 := ((hB3.ext hz).cell 3).trans rfl
      have b4 := ((hB3.ext hz).cell 4).trans rfl
      have hxa : Ext W4 (W4.alloc (.cells #[.int .i64 4, .int .u64 0, .int .i64 0, .int .u64 0, .slice none 0 0, .int .u64 0, .int .u64 k.snap.index, .int .u64 k.snap.term, .slice As0 k.snap.state.length cS0] 38)) := (Ext.rfl' _).alloc' _
      have hlit : Enc.Sl reE (W4.alloc (.cells #[.int .i64 4, .int .u64 0, .int .i64 0, .int .u64 0, .slice none 0 0, .int .u64 0, .int .u64 k.snap.index, .int .u64 k.snap.term, .slice As0 k.snap.state.length cS0] 38)) (fun j => X j ∨ (Value.slice (some (⟨gl, 0, none⟩ : Addr)) 1 1).ownBlock = some j) (.slice (some ⟨W4.heap.size, 0, none⟩) 1 1) [rSnap k.snap] :=
        Sl.one (E := reE) 38 (cs := recells (rSnap k.snap) (.slice none 0 0) (.slice As0 k.snap.state.length cS0)) (re_rep.2 ⟨_, _, rfl, rSnap_wide hkw, Enc.BsX.nil _ _, (hs3.mono (Y := fun j => X j ∨ (Value.slice (some (⟨gl, 0, none⟩ : Addr)) 1 1).ownBlock = some j) fun j hj h => by
          rcases h with h | h
          · exact h
          · have h9 : gl = j := Option.some.inj h
            omega).ext hz⟩) _ rfl (fun h => by
          rcases h with h | h
          · have := hXl _ h; have := hz.size; omega
          · have := (hown.lt _ h).2; omega)
      go_wp2_with (at_builtin; refine wpList_own elt_re 22 Try.underlying22 rfl _ _ rfl (hown.ext hxa) rfl (hz.trans' hxa) (m := [rSnap k.snap]) (y := .slice (some ⟨W4.heap.size, 0, none⟩) 1 1) rfl hlit (fun h => by have h1 := hXl _ h; have h2 := (hz.trans' hxa).size; omega) (by simp) (by simp) ?_; intro l2 A2 c2 w5 hl2 hown2 hx5 hc5)
      go_meet
      case rel => exact ⟨l2, A2, c2, rfl, hide (by rw [hl2.out]; unfold krecs1; rw [if_neg (by simpa using h0)]; rfl), hown2, hx5⟩
    · go_wp2_with fail
      go_meet
      case rel => exact ⟨[rHard k.hard], _, _, rfl, hide (by unfold krecs1; rw [if_pos (by simpa using h0)]), hown, hz⟩
  case rest =>
    obtain ⟨l1, A1, c1, rfl, hl1, hown1, hx4⟩ := hcut
    generalize wc = W5 at *
    clear b2 hown
    have hl1n : l1.length ≤ 2 := by rw [hl1.out]; exact krecs1_len k
    have hkn := hks.len
    have hKR : Hid (krecs k = l1 ++ k.ents.map rEnt) := hide (by rw [krecs_eq, hl1.out])
    obtain ⟨kr, hkr⟩ : ∃ kr, krecs k = kr := ⟨_, rfl⟩
    have HKR := hide hkr
    clear hkr
    have b5 := ((hB3.ext hx4).cell 5).trans rfl
    go_wp2_with fail
    go_loopw [3, 4] (fun vo i wr => ∃ (m : Nat) (l : List Rec) (A : Option Addr) (c : Nat), m ≤ k.ents.length ∧ vo = .slice A l.length c ∧ i = .int .i64 m ∧ Hid (l = l1 ++ (k.ents.take m).map rEnt) ∧ Own 38 reE W3 wr X (.slice A l.length c) l ∧ Ext W3 wr) (fun _ i _ => (k.ents.length - intOf i).toNat)
    case atStart => exact ⟨0, l1, A1, c1, by omega, rfl, rfl, hide (by simp), hown1, hx4⟩
    case round =>
      clear b5 hown1 hx4
      obtain ⟨m, l, A, c, hm, rfl, rfl, hl, hown, hxr⟩ := hrel
      have b5 := ((hB3.ext hxr).cell 5).trans rfl
      have hll : Hid (l.length ≤ 2 + m) := hide (by rw [hl.out]; simp; omega)
      by_cases hlt : m < k.ents.length
      · obtain ⟨ad, y, v, rfl, hyk, hbp, p0, p1, hyt, hyd⟩ := en_at he3 (k := m) hlt
        replace p0 := (hxr.cell (by rw [block_of_add]; exact hbp)).trans p0
        replace p1 := (hxr.cell (by show (ad.add (m * 2)).block < _; rw [block_of_add]; exact hbp)).trans p1
        obtain ⟨Ay, cy, rfl, -, -, -⟩ := id hyd.1
        have hm0 : (0 : Int) ≤ m := by omega
        have hml : (m : Int) < k.ents.length := by omega
        have HLT := hide hlt
        have HT : Hid (k.ents.take (m + 1) = k.ents.take m ++ [y]) := hide (take_snoc hyk.out)
        clear hlt
        have hxa : Ext wr (wr.alloc (.cells #[.int .i64 2, .int .u64 0, .int .i64 0, .int .u64 y.term, .slice Ay y.data.length cy, .int .u64 0, .int .u64 0, .int .u64 0, .slice none 0 0] 38)) := (Ext.rfl' _).alloc' _
        have hown3 := fun j h => (hown.lt j h).1
        have hlit : Enc.Sl reE (wr.alloc (.cells #[.int .i64 2, .int .u64 0, .int .i64 0, .int .u64 y.term, .slice Ay y.data.length cy, .int .u64 0, .int .u64 0, .int .u64 0, .slice none 0 0] 38)) (fun j => X j ∨ (Value.slice A l.length c).ownBlock = some j) (.slice (some ⟨wr.heap.size, 0, none⟩) 1 1) [rEnt y] :=
          Sl.one (E := reE) 38 (cs := recells (rEnt y) (.slice Ay y.data.length cy) (.slice none 0 0)) (re_rep.2 ⟨_, _, rfl, rEnt_wide hyt, (hyd.mono (Y := fun j => X j ∨ (Value.slice A l.length c).ownBlock = some j) fun j hj h => by
            rcases h with h | h
            · exact h
            · have := hown3 j h; omega).ext hxr, Enc.BsX.nil _ _⟩) _ rfl (fun h => by
            have h3 := hxr.size
            rcases h with h | h
            · have := hXl _ h; omega
            · have := (hown.lt _ h).2; omega)
        go_wp2_with (at_builtin; refine wpList_own elt_re 22 Try.underlying22 rfl _ _ rfl (hown.ext hxa) rfl (hxr.trans' hxa) (m := [rEnt y]) (y := .slice (some ⟨wr.heap.size, 0, none⟩) 1 1) rfl hlit (fun h => by have h1 := hXl _ h; have h2 := (hxr.trans' hxa).size; omega) (by have := hll.out; simp only [List.length_singleton]; omega) (by have := hll.out; simp only [List.length_singleton]; omega) ?_; intro l2 A2 c2 w5 hl2 hown2 hx5 hc5)
        go_roundw
        case rel => exact ⟨m + 1, l2, A2, c2, by have := HLT.out; omega, rfl, by go_num, hide (by rw [hl2.out, hl.out, HT.out]; simp), hown2, hx5⟩
        case measure => have := HLT.out; simp [intOf]; omega
      · obtain rfl : m = k.ents.length := by omega
        rw [List.take_length] at hl
        go_wp2
        go_ret
        exact ⟨l, A, c, hide (by rw [hl.out, ← hKR.out]), rfl, hown.base hx3.size, hx3.trans' hxr⟩
end Go.Proofs.Ytboncnlcomeahaa

/- ref21.Fold. -/
namespace Go.Proofs.Ytboncnlcomeahaa
set_option linter.unusedVariables false
set_option linter.unusedSimpArgs false
set_option linter.unnecessarySimpa false
set_option maxRecDepth 100000
open Go.RowKit
/-- what is known, in block g; it is only read -/
def RfV (X : Avoid) (w : World) (g : Nat) (k : Kp) (As : Option Addr) (cs : Nat) (Ae : Option Addr) (ce : Nat) : Prop :=
  Blk w g 33 #[.int .u64 k.hard.term, .int .i64 k.hard.vote, .int .u64 k.snap.index, .int .u64 k.snap.term, .slice As k.snap.state.length cs, .slice Ae k.ents.length ce] ∧ Enc.BsX w X (.slice As k.snap.state.length cs) k.snap.state ∧ Enc.Sl enE w X (.slice Ae k.ents.length ce) k.ents
def RfAt (X : Avoid) (w : World) (g : Nat) (k : Kp) : Prop := ∃ As cs Ae ce, RfV X w g k As cs Ae ce
theorem RfAt.ext {X : Avoid} {w w' : World} {g : Nat} {k : Kp} (h : RfAt X w g k) (hx : Ext w w') : RfAt X w' g k := by
  obtain ⟨As, cs, Ae, ce, h1, h2, h3⟩ := h
  exact ⟨As, cs, Ae, ce, h1.ext hx, h2.ext hx, h3.ext hx⟩
/-- along the appends of kind 2: how many stores were done -/
def RA (n1 g : Nat) (W1 : World) (xs new : List Value) (n : Nat) (old : Array Value) (mk : Value → Array Value) : Nat → World → Prop
  | 0, W => n1 ≤ W.heap.size ∧ Chg [g] W1 W ∧ Blk W g 33 old
  | _ + 1, W => Chg [g] W1 W ∧ ∃ v, Row2 n1 g 36 xs new n v W ∧ Blk W g 33 (mk v)
theorem RA.ext {n1 g : Nat} {W1 W W' : World} {xs new : List Value} {n : Nat} {old : Array Value} {mk : Value → Array Value} (h : RA n1 g W1 xs new n old mk 0 W) (hx : Ext W W') : RA n1 g W1 xs new n old mk 0 W' :=
  ⟨Nat.le_trans h.1 hx.size, h.2.1.trans (hx.chg _), h.2.2.ext hx⟩
theorem Chg.lessN {S T : List Nat} {a b : World} (h : Chg S a b) (hs : ∀ k, k ∈ S → k ∈ T ∨ a.heap.size ≤ k) : Chg T a b :=
  ⟨h.os, h.tape, h.output, h.size, fun k hk hn => h.block k hk fun hm => (hs k hm).elim hn fun h => by omega⟩
def RetKs (X : Avoid) (w w' : World) (e : Ending) (k : Kp) : Prop := ∃ (As : Option Addr) (cs : Nat) (Ae : Option Addr) (ce : Nat), e = .returned (.agg #[.int .u64 k.hard.term, .int .i64 k.hard.vote, .int .u64 k.snap.index, .int .u64 k.snap.term, .slice As k.snap.state.length cs, .slice Ae k.ents.length ce]) ∧
  Enc.BsX w' X (.slice As k.snap.state.length cs) k.snap.state ∧ Enc.Sl enE w' X (.slice Ae k.ents.length ce) k.ents ∧ Ext w w'
theorem ra_end {X : Avoid} {n1 g gw : Nat} {W4 W : World} {css : List (List Value)} {nw : List Value} {km : Kp} {y : En} {As A1 : Option Addr} {cs c1 : Nat} {old : Array Value}
    (hR : RA n1 g W4 css.flatten nw km.ents.length old (fun v => #[.int .u64 km.hard.term, .int .i64 km.hard.vote, .int .u64 km.snap.index, .int .u64 km.snap.term, .slice As km.snap.state.length cs, v]) 1 W) (hn1 : W4.heap.size = n1) (HNW : Hid (nw = [.int .u64 y.term, .slice A1 y.data.length c1]))
    (hea : Enc.Each enE W4 X css km.ents) (hFs : Enc.BsX W4 X (.slice As km.snap.state.length cs) km.snap.state) (he : 0 ≤ y.term ∧ y.term ≤ 18446744073709551615) (r2 : Enc.BsX W4 X (.slice A1 y.data.length c1) y.data)
    (hX : ∀ j, X j → j < gw) (hgw : gw ≤ n1) (hXg : X g) : RfAt X W g ⟨km.hard, km.snap, km.ents ++ [y]⟩ := by
  obtain ⟨hc, v, ⟨b, cap, cur, rfl, k1, k2, k3, k4, k5, k6, k7⟩, hB⟩ := hR
  have hin : ∀ j, j ∈ [g] → j < W4.heap.size → X j := fun j hj _ => by rw [List.mem_singleton.1 hj]; exact hXg
  have hnl : nw.length = 2 := by rw [HNW.out]; rfl
  have hlen : (km.ents ++ [y]).length = km.ents.length + 1 := by simp
  have hEE : Enc.Each enE W X (css ++ [nw]) (km.ents ++ [y]) := (hea.chg hc hin).app (.single (by rw [HNW.out]; exact en_rep.2 ⟨_, rfl, he, r2.chg hc hin⟩))
  have hfl : (css ++ [nw]).flatten = css.flatten ++ nw := by simp
  refine ⟨As, cs, some ⟨b, 0, none⟩, cap, ?_, hFs.chg hc hin, ?_⟩
  · simp only [hlen]; exact hB
  · simp only [hlen]
    refine ⟨_, _, css ++ [nw], by rw [hlen], by rw [hlen]; exact k4, k5, ⟨hEE.len, fun _ => ⟨_, rfl, k3.lt, fun j u hu => ?_⟩⟩, fun ad hv _ => ?_, hEE⟩
    · have hadd : (⟨b, 0, none⟩ : Addr).add j = ⟨b, j, none⟩ := by unfold Addr.add; split <;> simp_all
      rw [hadd, k3.cell, ← Array.getElem?_toList]
      rw [hfl] at hu
      exact take_allV k7 (by simp) j u hu
    · obtain rfl := Option.some.inj hv
      intro hx
      have := hX b hx
      omega
set_option maxHeartbeats 6400000 in
theorem rfold_b (X : Avoid) (k : Kp) (vs ve x : Value) (l : List Rec) (n : Nat) (w : World) (hX : ∀ j, X j → j < w.heap.size) (hkw : k.wide) (hks : k.small n) (hs : Enc.BsX w X vs k.snap.state) (he : Enc.Sl enE w X ve k.ents) (hx : Enc.Sl reE w X x l)
    (hl : ∀ r ∈ l, r.wide ∧ r.small) (hn : n + l.length ≤ 1000) :
    Calls Try.prog 13 #[.agg (kpcells k vs ve).toArray, x] w fun e w' => RetKs X w w' e (kfold k l) := by
  obtain ⟨Ax, cx, rfl, -, -⟩ := hx.form
  obtain ⟨kr, hkr⟩ : ∃ kr, kfold k l = kr := ⟨_, rfl⟩
  rw [hkr]
  have HKR := hide hkr
  clear hkr
  obtain ⟨As0, cS0, rfl, -, -, -⟩ := id hs.1
  obtain ⟨Ae0, cE0, rfl, -, -⟩ := he.form
  obtain ⟨hB, hR_, hxw⟩ := two_alK w 33 33 (kpcells k (.slice As0 k.snap.state.length cS0) (.slice Ae0 k.ents.length cE0)).toArray #[.int .u64 0, .int .i64 0, .int .u64 0, .int .u64 0, .slice none 0 0, .slice none 0 0]
  obtain ⟨g, hg⟩ : ∃ g, w.heap.size = g := ⟨_, rfl⟩
  rw [hg] at hB hR_
  have hXl : ∀ j, X j → j < g := fun j hj => by rw [← hg]; exact hX j hj
  go_enter Try.func13, Try.ntmps13
  go_upto_region 1 with fail
  generalize ((w.alloc (.cells (kpcells k (.slice As0 k.snap.state.length cS0) (.slice Ae0 k.ents.length cE0)).toArray 33)).alloc (.cells #[.int .u64 0, .int .i64 0, .int .u64 0, .int .u64 0, .slice none 0 0, .slice none 0 0] 33)) = w1 at *
  try rw [hg]
  have hr1 := hR_.lt
  have hX1 : ∀ j, XK X g j → j < w1.heap.size := fun j hj => by rcases hj with h | h; (have := hXl j h; omega); omega
  have hs' := (hs.mono (Y := XK X g) (fun j hj h => h.elim id fun h => by omega)).ext hxw
  have he' := (he.mono (Y := XK X g) (fun j hj h => h.elim id fun h => by omega)).ext hxw
  have hx' := (hx.mono (Y := XK X g) (fun j hj h => h.elim id fun h => by omega)).ext hxw
  have hFo : RfAt (XK X g) w1 g k := ⟨As0, cS0, Ae0, cE0, hB, hs', he'⟩
  clear hs' he' hB
  go_wp2_with fail
  go_loopw [5] (fun i wr => ∃ m : Nat, m ≤ l.length ∧ i = .int .i64 m ∧ RfAt (XK X g) wr g (kfold k (l.take m)) ∧ Chg [g] w1 wr) (fun i _ => (l.length - intOf i).toNat)
  case atStart => exact ⟨0, by omega, rfl, hFo, Chg.refl _ _⟩
  case round =>
    clear hFo
    obtain ⟨m, hm, rfl, hFo, hxr⟩ := hrel
    have hsm := Kp.small.fold (l.take m) hks (fun r hr => (hl r (List.mem_of_mem_take hr)).2)
    have hwd := Kp.wide.fold (l.take m) hkw (fun r hr => (hl r (List.mem_of_mem_take hr)).1)
    have hlt_ : (l.take m).length ≤ l.length := by rw [List.length_take]; omega
    have hxl := hx'.chg hxr (fun j hj _ => by have := List.mem_singleton.1 hj; exact .inr ⟨by omega, by omega⟩)
    by_cases hlt : m < l.length
    · obtain ⟨ad, r, v1, v2, rfl, hr, hb, p0, p1, p2, p3, p4, p5, p6, p7, p8, r1, r2, r3⟩ := re_at hxl hlt
      have hfs : kfold k (l.take (m + 1)) = kone (kfold k (l.take m)) r := by rw [take_snoc hr.out, kfold_snoc]
      have HFS := hide hfs
      clear hfs
      obtain ⟨km, hkm⟩ : ∃ q, kfold k (l.take m) = q := ⟨_, rfl⟩
      rw [hkm] at hFo hsm hwd HFS
      clear hkm
      obtain ⟨A1, c1, rfl, -, -, -⟩ := id r2.1
      obtain ⟨A2, c2, rfl, -, -, -⟩ := id r3.1
      have hz : Ext wr (wr.alloc (.cells (recells r (.slice A1 r.ent.data.length c1) (.slice A2 r.snap.state.length c2)).toArray 38)) := (Ext.rfl' _).alloc' _
      have hQ := Blk.new wr 38 (recells r (.slice A1 r.ent.data.length c1) (.slice A2 r.snap.state.length c2)).toArray
      obtain ⟨gq, hgq⟩ : ∃ g_, wr.heap.size = g_ := ⟨_, rfl⟩
      rw [hgq] at hQ
      have hm0 : (0 : Int) ≤ m := by omega
      have hml : (m : Int) < l.length := by omega
      have HLT := hide hlt
      clear hlt
      have hgq1 : w1.heap.size ≤ gq := by rw [← hgq]; exact hxr.size
      go_upto_region 5 with fail
      try rw [hgq]
      clear hgq p0 p1 p2 p3 p4 p5 p6 p7 p8
      generalize (wr.alloc (.cells (recells r (.slice A1 r.ent.data.length c1) (.slice A2 r.snap.state.length c2)).toArray 38)) = W4 at *
      replace hFo := hFo.ext hz
      replace r2 := r2.ext hz
      replace r3 := r3.ext hz
      replace hxr := hxr.trans (hz.chg [g])
      clear hz hxl
      have q0 := (hQ.cell 0).trans rfl
      go_upto_if 22 with fail
      rcases Bool.eq_false_or_eq_true (r.kind == 1) with k1 | k1
      · have HK : Hid (kone km r = ⟨r.hard, km.snap, km.ents⟩) := hide (by unfold kone; rw [if_pos (by simpa using k1)])
        obtain ⟨As, cs, Ae, ce, hF, hFs, hFe⟩ := hFo
        have q1 := (hQ.cell 1).trans rfl
        have q2 := (hQ.cell 2).trans rfl
        have d0 := (hF.cell 0).trans rfl
        have d1 := (hF.cell 1).trans rfl
        have f0 := hF.frozen 0
        have f1 := hF.frozen 1
        go_wp2
        have hcg : Chg [g] W4 ((W4.setCell ⟨g, 0, none⟩ (.int .u64 r.hard.term)).setCell ⟨g, 1, none⟩ (.int .i64 r.hard.vote)) := ((Chg.refl _ _).set (by simp) _).set (by simp) _
        have hin : ∀ j, j ∈ [g] → j < W4.heap.size → XK X g j := fun j hj _ => by have := List.mem_singleton.1 hj; exact .inr ⟨by omega, by omega⟩
        go_roundw
        case rel => exact ⟨m + 1, by have := HLT.out; omega, by go_num, by rw [HFS.out, HK.out]; exact ⟨As, cs, Ae, ce, (hF.set_ 0 _).set_ 1 _, hFs.chg hcg hin, hFe.chg hcg hin⟩, hxr.trans hcg⟩
        case measure => have := HLT.out; simp [intOf]; omega
      have K1 : Hid (¬ r.kind = 1) := hide (by simpa using k1)
      rcases Bool.eq_false_or_eq_true (r.kind == 2) with k2 | k2
      · have HK : Hid (kone km r = ⟨km.hard, km.snap, km.ents ++ [r.ent]⟩) := hide (by unfold kone; rw [if_neg K1.out, if_pos (by simpa using k2)])
        obtain ⟨As, cs, Ae, ce, hF, hFs, hFe⟩ := hFo
        obtain ⟨A_, c_, css, he_, hlc_, hcm_, hrd, hnx, hea⟩ := id hFe
        simp only [Value.slice.injEq, true_and] at he_
        obtain ⟨rfl, rfl⟩ := he_
        obtain ⟨n1, hn1⟩ : ∃ n_, W4.heap.size = n_ := ⟨_, rfl⟩
        have hgn : g < n1 := by rw [← hn1]; exact hF.lt
        have hgqn : gq < n1 := by rw [← hn1]; exact hQ.lt
        have hgqg : gq ≠ g := by omega
        have hlk : km.ents.length ≤ 1000 := by have := hsm.len; omega
        have hrw := (hl r (List.mem_of_getElem? hr.out)).1
        obtain ⟨nw, hnw⟩ : ∃ l_ : List Value, l_ = [.int .u64 r.ent.term, .slice A1 r.ent.data.length c1] := ⟨_, rfl⟩
        have HNW := hide hnw
        have hnl : nw.length = 2 := by rw [hnw]; rfl
        have hno : ∀ u ∈ nw, u.oneCell' = true := by rw [hnw]; intro u hu; simp at hu; rcases hu with rfl | rfl <;> rfl
        obtain ⟨i0, hi0, hz0, hz1, hz2⟩ := info_parts elt_en.info
        have hrun1 := fun (W : World) v (h1 : n1 ≤ W.heap.size) (h2 : Row0 n1 g 36 v W) (hrd : Reads W W.heap.size enE.size Ae km.ents.length css.flatten) => run_row1 (P := Try.prog) (new := nw) (c := ce) 31 31 i0 Try.underlying31 hi0 hz0 (hz1.trans hnl.symm) hz2 (elt_en.zs.trans hnl.symm) (by rw [hnl]; decide) h1 hgn h2 (by rw [hnl]; exact hrd) hea.one (by omega) (by decide)
        have hrun2 := fun (W : World) v y (h1 : n1 ≤ W.heap.size) (h2 : Row1 n1 g 36 css.flatten nw km.ents.length v W) (h3 : Lit1 n1 g 36 nw y W) => run_row2 (P := Try.prog) (new := nw) 31 31 i0 Try.underlying31 hi0 hz0 (hz1.trans hnl.symm) hz2 (elt_en.zs.trans hnl.symm) (by rw [hnl]; decide) h1 hgn (by rw [hea.len, hnl]; rfl) hno (by omega) (by decide) h2 h3
        have hnp : 0 < nw.length := by rw [hnl]; decide
        have HL := hide hnl
        clear hnw hnl hno
        have HR1 := hide hrun1
        have HR2 := hide hrun2
        clear hrun1 hrun2
        go_upto_region 9 with fail
        refine Rg.regionE Try.checked.mixed 121 10 (by kernel_rfl) [
          ((false, true), (fun v W => Row0 n1 g 36 v W)),
          ((false, true), (fun x_ _ => x_ = .pointer (some ⟨g, 5, none⟩))),
          ((false, true), (fun x_ _ => x_ = .slice Ae km.ents.length ce)),
          ((false, true), (fun v W => Row1 n1 g 36 css.flatten nw km.ents.length v W)),
          ((false, true), (fun x_ _ => x_ = .pointer (some ⟨gq, 3, none⟩))),
          ((false, true), (fun x_ _ => x_ = .agg #[.int .u64 r.ent.term, .slice A1 r.ent.data.length c1])),
          ((false, true), (fun v W => Lit1 n1 g 36 nw v W)),
          ((false, true), (fun v W => Row2 n1 g 36 css.flatten nw km.ents.length v W)),
          ((false, true), (fun x_ _ => x_ = .pointer (some ⟨g, 5, none⟩))),
          ((true, false), (fun x_ _ => x_ = undef))] (by kernel_rfl) (RA n1 g W4 css.flatten nw km.ents.length #[.int .u64 km.hard.term, .int .i64 km.hard.vote, .int .u64 km.snap.index, .int .u64 km.snap.term, .slice As km.snap.state.length cs, .slice Ae km.ents.length ce] (fun v => #[.int .u64 km.hard.term, .int .i64 km.hard.vote, .int .u64 km.snap.index, .int .u64 km.snap.term, .slice As km.snap.state.length cs, v])) (Gr n1 g 36 css.flatten nw) rfl rfl rfl
          ?st ⟨Nat.le_of_eq hn1.symm, (Chg.refl [g] _).drew, hF.drew⟩ ?ob ?en
        case st => exact ⟨fun _ _ _ h hG => h.last hnp hG, fun _ _ _ h _ => h, fun _ _ _ h _ => h, fun _ _ _ h hG => h.last hG, fun _ _ _ h _ => h, fun _ _ _ h _ => h, fun _ _ _ h hG => h.last hG, fun _ _ _ h hG => h.last hG, fun _ _ _ h _ => h, fun _ _ _ h _ => h, trivial⟩
        case ob =>
          refine ⟨Rg.e2 (Rg.at_runW [] rfl ?_), ?_⟩
          · intro ρ W hR _
            refine ⟨rfl, ?_⟩
            exact Rg.run_ok (v := .slice (some ⟨W.heap.size, 0, none⟩) 0 0) (W' := W.alloc (.cells #[] 36)) (by simp [execOp, Rg.ev, go_sem] <;> rfl) ⟨row0_new _ hR.1 hgn, hR.ext ((Ext.rfl' W).alloc' _), .of_ext ((Ext.rfl' W).alloc' _)⟩
          refine ⟨Rg.e2 (Rg.at_runW [2] rfl ?_), ?_⟩
          · intro ρ W hR ⟨q2, _⟩
            replace q2 : ρ 2 = .pointer (some ⟨g, 0, none⟩) := q2
            refine ⟨rfl, ?_⟩
            exact Rg.run_ok (v := .pointer (some ⟨g, 5, none⟩)) (by simp [execOp, Rg.ev, go_sem, q2]) ⟨rfl, hR, Gr.refl _⟩
          refine ⟨Rg.e2 (Rg.at_runW [30] rfl ?_), ?_⟩
          · intro ρ W hR ⟨q30, _⟩
            replace q30 : ρ 30 = .pointer (some ⟨g, 5, none⟩) := q30
            refine ⟨rfl, ?_⟩
            have c_ : W.cell? ⟨g, 5, none⟩ = some (.slice Ae km.ents.length ce) := (hR.2.2.cell 5).trans rfl
            exact Rg.run_ok (v := .slice Ae km.ents.length ce) (by simp [execOp, Rg.ev, go_sem, q30, c_]) ⟨rfl, hR, Gr.refl _⟩
          refine ⟨Rg.e2 (Rg.at_runW [29, 31] rfl ?_), ?_⟩
          · intro ρ W hR ⟨q29, q31, _⟩
            replace q29 : (fun v W => Row0 n1 g 36 v W) (ρ 29) W := q29
            replace q31 : ρ 31 = .slice Ae km.ents.length ce := q31
            refine ⟨rfl, ?_⟩
            obtain ⟨v', w', hrun, h2, h3⟩ := HR1.out W (ρ 29) hR.1 q29 (hrd.chg hR.2.1 (fun ad he h0 hm => hnx ad he h0 (.inr ⟨by have := List.mem_singleton.1 hm; omega, by have := List.mem_singleton.1 hm; omega⟩)))
            exact Rg.run_ok (by simp only [execOp, resolve, invoke, builtin, Sem.run_bind, Sem.run_pure, Result.andThen_ok, List.map_toArray, List.map_cons, List.map_nil, Rg.ev, q31, hrun]) ⟨h2, hR.ext h3, .of_ext h3⟩
          refine ⟨Rg.e2 (Rg.at_runW [6] rfl ?_), ?_⟩
          · intro ρ W hR ⟨q6, _⟩
            replace q6 : ρ 6 = .pointer (some ⟨gq, 0, none⟩) := q6
            refine ⟨rfl, ?_⟩
            exact Rg.run_ok (v := .pointer (some ⟨gq, 3, none⟩)) (by simp [execOp, Rg.ev, go_sem, q6]) ⟨rfl, hR, Gr.refl _⟩
          refine ⟨Rg.e2 (Rg.at_runW [33] rfl ?_), ?_⟩
          · intro ρ W hR ⟨q33, _⟩
            replace q33 : ρ 33 = .pointer (some ⟨gq, 3, none⟩) := q33
            refine ⟨rfl, ?_⟩
            have c3_ : W.cell? ⟨gq, 3, none⟩ = some (.int .u64 r.ent.term) := ((hQ.chg hR.2.1 (by simpa using hgqg)).cell 3).trans rfl
            have c4_ : W.cell? ⟨gq, 4, none⟩ = some (.slice A1 r.ent.data.length c1) := ((hQ.chg hR.2.1 (by simpa using hgqg)).cell 4).trans rfl
            exact Rg.run_ok (v := .agg #[.int .u64 r.ent.term, .slice A1 r.ent.data.length c1]) (by simp [execOp, Rg.ev, go_sem, q33, c3_, c4_]) ⟨rfl, hR, Gr.refl _⟩
          refine ⟨Rg.e2 (Rg.at_runW [34] rfl ?_), ?_⟩
          · intro ρ W hR ⟨q34, _⟩
            replace q34 : ρ 34 = .agg #[.int .u64 r.ent.term, .slice A1 r.ent.data.length c1] := q34
            refine ⟨rfl, ?_⟩
            have h9 := lit1_new (new := nw) 36 hR.1 hgn
            rw [HNW.out] at h9
            exact Rg.run_ok (v := .slice (some ⟨W.heap.size, 0, none⟩) 1 1) (W' := W.alloc (.cells #[.int .u64 r.ent.term, .slice A1 r.ent.data.length c1] 36)) (by simp [execOp, Rg.ev, go_sem, q34] <;> rfl) ⟨by rw [HNW.out]; exact h9, hR.ext ((Ext.rfl' W).alloc' _), .of_ext ((Ext.rfl' W).alloc' _)⟩
          refine ⟨Rg.e2 (Rg.at_runW [32, 35] rfl ?_), ?_⟩
          · intro ρ W hR ⟨q32, q35, _⟩
            replace q32 : (fun v W => Row1 n1 g 36 css.flatten nw km.ents.length v W) (ρ 32) W := q32
            replace q35 : (fun v W => Lit1 n1 g 36 nw v W) (ρ 35) W := q35
            refine ⟨rfl, ?_⟩
            obtain ⟨v', w', S, hrun, h2, h3, h4, h5⟩ := HR2.out W (ρ 32) (ρ 35) hR.1 q32 q35
            exact Rg.run_ok (by simp only [execOp, resolve, invoke, builtin, Sem.run_bind, Sem.run_pure, Result.andThen_ok, List.map_toArray, List.map_cons, List.map_nil, Rg.ev, hrun]) ⟨h2, ⟨Nat.le_trans hR.1 h4.size, ((hR.2.1.mono (T := g :: S) (by simp)).trans (h4.mono (by simp_all))).lessN (fun k hk => (List.mem_cons.1 hk).elim (fun h => .inl (by simp [h])) fun h => .inr (by rw [hn1]; exact h5 k h)), hR.2.2.chg h4 (fun hm => by have := h5 g hm; omega)⟩, h3⟩
          refine ⟨Rg.e2 (Rg.at_runW [2] rfl ?_), ?_⟩
          · intro ρ W hR ⟨q2, _⟩
            replace q2 : ρ 2 = .pointer (some ⟨g, 0, none⟩) := q2
            refine ⟨rfl, ?_⟩
            exact Rg.run_ok (v := .pointer (some ⟨g, 5, none⟩)) (by simp [execOp, Rg.ev, go_sem, q2]) ⟨rfl, hR, Gr.refl _⟩
          refine ⟨Rg.e1 (Rg.at_runW [37, 36] rfl ?_), ?_⟩
          · intro ρ W hR ⟨q37, q36, _⟩
            replace q37 : ρ 37 = .pointer (some ⟨g, 5, none⟩) := q37
            replace q36 : (fun v W => Row2 n1 g 36 css.flatten nw km.ents.length v W) (ρ 36) W := q36
            refine ⟨rfl, ?_⟩
            have c_ : W.cell? ⟨g, 5, none⟩ = some (.slice Ae km.ents.length ce) := (hR.2.2.cell 5).trans rfl
            have z_ := hR.2.2.frozen 5
            obtain ⟨b_, cap_, cur_, hv_, i1, i2, i3, i4⟩ := id q36
            exact Rg.run_skip (W' := W.setCell ⟨g, 5, none⟩ (ρ 36)) (by rw [hv_]; simp [execOp, Rg.ev, go_sem, q37, hv_, c_, z_]) ⟨rfl, ⟨hR.2.1.set (by simp) _, ρ 36, q36.last (.of_chg ((Chg.refl [g] _).set (by simp) _)), hR.2.2.set_ 5 _⟩, .of_chg ((Chg.refl [g] _).set (by simp) _)⟩
          trivial
        case en =>
          intro tm W hR hsz hk
          rw [Rg.fin_eq (ds := [29, 30, 31, 32, 33, 34, 35, 36, 37]) rfl rfl rfl hsz hk]
          have k29 : (fun v W => Row0 n1 g 36 v W) (tm.getD 29 undef) W := hk 29
          have k30 : tm.getD 30 undef = .pointer (some ⟨g, 5, none⟩) := hk 30
          have k31 : tm.getD 31 undef = .slice Ae km.ents.length ce := hk 31
          have k32 : (fun v W => Row1 n1 g 36 css.flatten nw km.ents.length v W) (tm.getD 32 undef) W := hk 32
          have k33 : tm.getD 33 undef = .pointer (some ⟨gq, 3, none⟩) := hk 33
          have k34 : tm.getD 34 undef = .agg #[.int .u64 r.ent.term, .slice A1 r.ent.data.length c1] := hk 34
          have k35 : (fun v W => Lit1 n1 g 36 nw v W) (tm.getD 35 undef) W := hk 35
          have k36 : (fun v W => Row2 n1 g 36 css.flatten nw km.ents.length v W) (tm.getD 36 undef) W := hk 36
          have k37 : tm.getD 37 undef = .pointer (some ⟨g, 5, none⟩) := hk 37
          clear hk hsz
          simp only [Rg.putAll, List.setIfInBounds_toArray, List.set_cons_zero, List.set_cons_succ, k30, k31, k33, k34, k37]
          generalize tm.getD 29 undef = u29 at *
          clear k30
          clear k31
          generalize tm.getD 32 undef = u32 at *
          clear k33
          clear k34
          generalize tm.getD 35 undef = u35 at *
          generalize tm.getD 36 undef = u36 at *
          clear k37
          refine Rg.nil_list ?_

          go_wp2_with fail
          go_roundw
          case rel => exact ⟨m + 1, by have := HLT.out; omega, by go_num, by rw [HFS.out, HK.out]; exact ra_end hR hn1 HNW hea hFs ⟨hrw.e0, hrw.e1⟩ r2 hX1 (by rw [← hn1]; exact hxr.size) (.inr ⟨by omega, by omega⟩), hxr.trans hR.1⟩
          case measure => have := HLT.out; simp [intOf]; omega
      have K2 : Hid (¬ r.kind = 2) := hide (by simpa using k2)
      rcases Bool.eq_false_or_eq_true (r.kind == 3) with k3 | k3
      · have HK0 : Hid (kone km r = ⟨km.hard, km.snap, km.ents.take (kcutN km r.index)⟩) := hide (by unfold kone; rw [if_neg K1.out, if_neg K2.out, if_pos (by simpa using k3)])
        obtain ⟨N, hN⟩ : ∃ N, kcutN km r.index = N := ⟨_, rfl⟩
        have HK : Hid (kone km r = ⟨km.hard, km.snap, km.ents.take N⟩) := hide (by rw [HK0.out, hN])
        have HN := hide hN
        clear hN HK0
        obtain ⟨As, cs, Ae, ce, hF, hFs, hFe⟩ := hFo
        have hrw := (hl r (List.mem_of_getElem? hr.out)).1
        have hn0 := hwd.n0
        have hn1 := hwd.n1
        have hi0 := hrw.i0
        have hi1 := hrw.i1
        have hlk : km.ents.length ≤ 1000 := by have := hsm.len; omega
        have hNl : N ≤ km.ents.length := by rw [← HN.out]; unfold kcutN; split <;> omega
        have q5 := (hQ.cell 5).trans rfl
        have d2 := (hF.cell 2).trans rfl
        have d5 := (hF.cell 5).trans rfl
        go_upto_block 3 with fail
        go_cut [7] from 10 to 119 (fun v7 wx => v7 = .int .i64 N ∧ W4 = wx)
        case first =>
          go_wp2_with fail
          go_loop [7] (fun v => ∃ q : Nat, q ≤ N ∧ v = .int .i64 q) (fun v => (N - intOf v).toNat)
          case atStart => exact ⟨0, by omega, rfl⟩
          case round =>
            obtain ⟨q, hqN, rfl⟩ := hrel
            by_cases c1 : (q : Int) < km.ents.length
            · by_cases c2 : km.snap.index < r.index
              · obtain ⟨u, hu⟩ : ∃ u : Nat, r.index - km.snap.index = ((u + 1 : Nat) : Int) := ⟨(r.index - km.snap.index - 1).toNat, by omega⟩
                have hw1 : IntKind.u64.wrap (r.index - km.snap.index) = (u : Int) + 1 := by rw [hu]; exact IntWalk.u64_in _ ⟨by omega, by omega⟩
                have hw2 : IntKind.u64.wrap ((u : Int) + 1 - 1) = (u : Int) := by rw [show (u : Int) + 1 - 1 = u by omega]; exact IntWalk.u64_in _ ⟨by omega, by omega⟩
                have hw3 : IntKind.u64.wrap (u : Int) = u := IntWalk.u64_in _ ⟨by omega, by omega⟩
                have hconv : IntKind.u64.wrap (q : Int) = q := IntWalk.u64_in _ ⟨by omega, by omega⟩
                have hNu : Hid (N = min km.ents.length u) := hide (by rw [← HN.out]; unfold kcutN; rw [if_neg (by omega)]; congr 1; omega)
                clear hu
                by_cases c3 : (q : Int) < u
                · go_wp2
                  go_round
                  case rel => exact ⟨q + 1, by have := hNu.out; omega, by go_num⟩
                  case measure => have := hNu.out; simp [intOf]; omega
                · go_wp2
                  go_meet
                  case rel => exact ⟨by rw [show q = N by have := hNu.out; omega], rfl⟩
              · go_wp2
                go_meet
                case rel => exact ⟨by rw [show q = N by have := HN.out; unfold kcutN at this; rw [if_pos (by omega)] at this; omega], rfl⟩
            · go_wp2
              go_meet
              case rel => exact ⟨by rw [show q = N by omega], rfl⟩
        case rest =>
          obtain ⟨rfl, rfl⟩ := hcut
          obtain ⟨A', c', he', hlec, hce⟩ := hFe.form
          simp only [Value.slice.injEq, true_and] at he'
          obtain ⟨rfl, rfl⟩ := he'
          simp only [maxLen] at hce
          have hXW : ∀ j, XK X g j → j < W4.heap.size := fun j hj => Nat.lt_of_lt_of_le (hX1 j hj) hxr.size
          have hxa : Ext W4 (W4.alloc (.cells #[] 36)) := (Ext.rfl' W4).alloc' _
          have e5 := ((hF.alloc (.cells #[] 36)).cell 5).trans rfl
          obtain ⟨i0, hi0, hz0, hz1, hz2⟩ := info_parts elt_en.info
          have hNc : N ≤ ce := by omega
          have hsl := fun W => run_sl_h (P := Try.prog) (A := Ae) (n := km.ents.length) (c := ce) (hi := (N : Int)) (kh := .i64) Try.underlying31 hi0 hz1 N rfl hNc W
          have hdl : (km.ents.take N).length = N := by rw [List.length_take]; omega
          have hfr := Sl.front hFe hNl
          go_wp2_with (at_builtin; refine wpList_own elt_en 31 Try.underlying31 rfl _ _ rfl (Own.lit0 (w0 := W4) (X := XK X g) _ _ (Ext.rfl' W4) _ rfl (fun h => Nat.lt_irrefl _ (hXW _ h))) rfl hxa (m := km.ents.take N) rfl (Sl.apartG (w0 := W4) hfr hxa (own_litG W4)) (fun h => by have := hXW _ h; simp at this; omega) (by simp only [List.length_nil, hdl]; omega) (by simp only [List.length_nil, hdl]; omega) ?_; intro l2 A2' c2' w5 hl2 hown2 hx5 hc5; have hB5 := hF.ext hx5; have f5 := hB5.frozen 5; have y5 := (hB5.cell 5).trans rfl)
          have hcg : Chg [g] w5 (w5.setCell ⟨g, 5, none⟩ (.slice A2' l2.length c2')) := (Chg.refl _ _).set (by simp) _
          have hin : ∀ j, j ∈ [g] → j < w5.heap.size → XK X g j := fun j hj _ => by have := List.mem_singleton.1 hj; exact .inr ⟨by omega, by omega⟩
          go_roundw
          case rel => exact ⟨m + 1, by have := HLT.out; omega, by go_num, by
            rw [HFS.out, HK.out]
            have hl2' := hl2.out
            rw [List.nil_append] at hl2'
            rw [← hl2']
            exact ⟨As, cs, A2', c2', hB5.set_ 5 _, (hFs.ext hx5).chg hcg hin, (hown2.sl).chg hcg hin⟩, (hxr.trans (hx5.chg _)).trans hcg⟩
          case measure => have := HLT.out; simp [intOf]; omega
      have K3 : Hid (¬ r.kind = 3) := hide (by simpa using k3)
      rcases Bool.eq_false_or_eq_true (r.kind == 4) with k4 | k4
      · obtain ⟨As, cs, Ae, ce, hF, hFs, hFe⟩ := hFo
        have q6 := (hQ.cell 6).trans rfl
        have d2 := (hF.cell 2).trans rfl
        have hrw := (hl r (List.mem_of_getElem? hr.out)).1
        have hin : ∀ W : World, ∀ j, j ∈ [g] → j < W.heap.size → XK X g j := fun W j hj _ => by have := List.mem_singleton.1 hj; exact .inr ⟨by omega, by omega⟩
        by_cases hle2 : r.snap.index ≤ km.snap.index
        · have HK : Hid (kone km r = km) := hide (by unfold kone; rw [if_neg K1.out, if_neg K2.out, if_neg K3.out, if_pos (by simpa using k4)]; exact if_pos hle2)
          go_wp2_with fail
          go_roundw
          case rel => exact ⟨m + 1, by have := HLT.out; omega, by go_num, by rw [HFS.out, HK.out]; exact ⟨As, cs, Ae, ce, hF, hFs, hFe⟩, hxr⟩
          case measure => have := HLT.out; simp [intOf]; omega
        · have HK : Hid (kone km r = ⟨km.hard, r.snap, ksnapE km r.snap⟩) := hide (by unfold kone; rw [if_neg K1.out, if_neg K2.out, if_neg K3.out, if_pos (by simpa using k4)]; exact if_neg hle2)
          have hn0 := hwd.n0
          have hn1 := hrw.n1
          have hlk : km.ents.length ≤ 1000 := by have := hsm.len; omega
          obtain ⟨u, hu⟩ : ∃ u : Nat, r.snap.index - km.snap.index = ((u + 1 : Nat) : Int) := ⟨(r.snap.index - km.snap.index - 1).toNat, by omega⟩
          have hw1 : IntKind.u64.wrap (r.snap.index - km.snap.index) = (u : Int) + 1 := by rw [hu]; exact IntWalk.u64_in _ ⟨by omega, by omega⟩
          have hw2 : IntKind.u64.wrap ((u : Int) + 1 - 1) = (u : Int) := by rw [show (u : Int) + 1 - 1 = u by omega]; exact IntWalk.u64_in _ ⟨by omega, by omega⟩
          have hconv : IntKind.u64.wrap (km.ents.length : Int) = km.ents.length := IntWalk.u64_in _ ⟨by omega, by omega⟩
          have HQ : Hid (snapQ km r.snap = (decide (((u + 1 : Nat) : Int) ≤ km.ents.length) && (km.ents[u]?).any (fun e => decide (e.term = r.snap.term)))) := hide (by unfold snapQ; rw [hu]; rfl)
          have HM := hide hu
          clear hu
          go_upto_region 19 with fail
          have d5 := (hF.cell 5).trans rfl
          have q7 := (hQ.cell 7).trans rfl
          have hdx := (Ext.rfl' W4).drew'
          go_cut [108] from 10 to 119 (fun b wx => b = .bool (snapQ km r.snap) ∧ Ext W4 wx)
          case first =>
            by_cases hle : ((u : Int) + 1) ≤ km.ents.length
            · obtain ⟨ad, y, vy, rfl, hyk, hbp, p0, p1, -, -⟩ := en_at hFe (k := u) (by omega)
              have hm0 : (0 : Int) ≤ u := by omega
              have hml : (u : Int) < km.ents.length := by omega
              rcases Bool.eq_false_or_eq_true (y.term == r.snap.term) with ht | ht
              · have HQ2 : Hid (snapQ km r.snap = true) := hide (by rw [HQ.out, hyk.out]; simp at ht; simp [ht]; omega)
                go_region
                go_wp2_with fail
                go_meet
                case rel => exact ⟨by rw [HQ2.out], hdx⟩
              · have HQ2 : Hid (snapQ km r.snap = false) := hide (by rw [HQ.out, hyk.out]; simp at ht; simp [ht])
                go_region
                go_wp2_with fail
                go_meet
                case rel => exact ⟨by rw [HQ2.out], hdx⟩
            · have HQ2 : Hid (snapQ km r.snap = false) := hide (by rw [HQ.out, decide_eq_false (by omega)]; rfl)
              go_region
              go_wp2_with fail
              go_meet
              case rel => exact ⟨by rw [HQ2.out], hdx⟩
          case rest =>
            obtain ⟨rfl, hxc⟩ := hcut
            generalize wc = W5 at *
            replace hF := hF.ext hxc
            replace hFs := hFs.ext hxc
            replace hFe := hFe.ext hxc
            replace hQ := hQ.ext hxc
            have r3c := r3.ext hxc
            have hxr5 := hxr.trans (hxc.chg [g])
            clear d5 q7 hdx q6 d2
            have d5 := (hF.cell 5).trans rfl
            obtain ⟨A', c', he', hlec, hce⟩ := hFe.form
            simp only [Value.slice.injEq, true_and] at he'
            obtain ⟨rfl, rfl⟩ := he'
            simp only [maxLen] at hce
            obtain ⟨q, hq⟩ : ∃ q, snapQ km r.snap = q := ⟨_, rfl⟩
            rw [hq]
            have HQQ := hide hq
            clear hq
            have hX5 : ¬ XK X g W5.heap.size := fun h => by
              have := hX1 _ h; have := hxr5.size; omega
            go_upto_if 108 with fail
            go_cut [8] from 10 to 119 (fun v8 wx => ∃ A c, v8 = .slice A (ksnapE km r.snap).length c ∧ Enc.Sl enE wx (XK X g) (.slice A (ksnapE km r.snap).length c) (ksnapE km r.snap) ∧ Ext W5 wx)
            case first =>
              cases q with
              | true =>
                have hml : u + 1 ≤ km.ents.length := by
                  have := HQQ.out
                  rw [HQ.out] at this
                  simp at this
                  omega
                obtain ⟨i0, hi0, hz0, hz1, hz2⟩ := info_parts elt_en.info
                have hsl := fun W => run_sl_l (P := Try.prog) (A := Ae) (n := km.ents.length) (c := ce) (lo := (u : Int) + 1) (kl := .u64) Try.underlying31 hi0 hz1 (u + 1) (by simp) (by omega) W
                have hdl : (km.ents.drop (u + 1)).length = km.ents.length - (u + 1) := List.length_drop
                have hy := (Sl.rest hFe hml).mono (Y := fun j => XK X g j ∨ (Value.slice none 0 0).ownBlock = some j) (fun j _ h => h.elim id (fun h => by cases h))
                have HE : Hid (ksnapE km r.snap = km.ents.drop (u + 1)) := hide (by rw [ksnapE_q, HQQ.out, if_pos rfl, HM.out]; rfl)
                go_wp2_with (at_builtin; refine wpList_own elt_en 31 Try.underlying31 rfl _ _ rfl (Own.nil _ _ W5 W5 (XK X g)) rfl (Ext.rfl' W5) (m := km.ents.drop (u + 1)) rfl hy hX5 (by simp only [List.length_nil, hdl]; omega) (by simp only [List.length_nil, hdl]; omega) ?_; intro l2 A2 c2 w5 hl2 hown2 hx5 hc5)
                go_meet
                case rel =>
                  rw [HE.out]
                  obtain rfl : l2 = km.ents.drop (u + 1) := by rw [hl2.out]; rfl
                  exact ⟨A2, c2, rfl, hown2.sl, hx5⟩
              | false =>
                go_wp2_with fail
                go_meet
                case rel =>
                  rw [show ksnapE km r.snap = [] by rw [ksnapE_q, HQQ.out, if_neg (by simp)]]
                  exact ⟨none, 0, rfl, Enc.Sl.nil _ _ _, Ext.rfl' _⟩
            case rest =>
              obtain ⟨A8, c8, rfl, hE8, hx8⟩ := hcut
              generalize wc = W6 at *
              clear d5
              replace hF := hF.ext hx8
              replace hFs := hFs.ext hx8
              replace hQ := hQ.ext hx8
              have r3d := r3c.ext hx8
              have hxr6 := hxr5.trans (hx8.chg [g])
              have q6 := (hQ.cell 6).trans rfl
              have q7 := (hQ.cell 7).trans rfl
              have q8 := (hQ.cell 8).trans rfl
              have d2 := (hF.cell 2).trans rfl
              have d3 := (hF.cell 3).trans rfl
              have d4 := (hF.cell 4).trans rfl
              have d5 := (hF.cell 5).trans rfl
              have f2 := hF.frozen 2
              have f3 := hF.frozen 3
              have f4 := hF.frozen 4
              have f5 := hF.frozen 5
              go_wp2
              have hcg : Chg [g] W6 ((((W6.setCell ⟨g, 2, none⟩ (.int .u64 r.snap.index)).setCell ⟨g, 3, none⟩ (.int .u64 r.snap.term)).setCell ⟨g, 4, none⟩ (.slice A2 r.snap.state.length c2)).setCell ⟨g, 5, none⟩ (.slice A8 (ksnapE km r.snap).length c8)) := ((((Chg.refl _ _).set (by simp) _).set (by simp) _).set (by simp) _).set (by simp) _
              go_roundw
              case rel => exact ⟨m + 1, by have := HLT.out; omega, by go_num, by rw [HFS.out, HK.out]; exact ⟨A2, c2, A8, c8, (((hF.set_ 2 _).set_ 3 _).set_ 4 _).set_ 5 _, r3d.chg hcg (hin _), hE8.chg hcg (hin _)⟩, hxr6.trans hcg⟩
              case measure => have := HLT.out; simp [intOf]; omega
      have HK : Hid (kone km r = km) := hide (by unfold kone; rw [if_neg K1.out, if_neg K2.out, if_neg K3.out, if_neg (by simpa using k4)])
      go_wp2_with fail
      go_roundw
      case rel => exact ⟨m + 1, by have := HLT.out; omega, by go_num, by rw [HFS.out, HK.out]; exact hFo, hxr.trans (Chg.refl _ _)⟩
      case measure => have := HLT.out; simp [intOf]; omega
    · obtain rfl : m = l.length := by omega
      rw [List.take_length] at hFo hsm hwd
      rw [HKR.out] at hFo hsm hwd
      obtain ⟨As, cs, Ae, ce, hF, hFs, hFe⟩ := hFo
      have hR6 := hR_.chg hxr (by simp)
      have b0 := (hF.cell 0).trans rfl
      have b1 := (hF.cell 1).trans rfl
      have b2 := (hF.cell 2).trans rfl
      have b3 := (hF.cell 3).trans rfl
      have b4 := (hF.cell 4).trans rfl
      have b5 := (hF.cell 5).trans rfl
      have r0 := (hR6.cell 0).trans rfl
      have r1 := (hR6.cell 1).trans rfl
      have r2 := (hR6.cell 2).trans rfl
      have r3 := (hR6.cell 3).trans rfl
      have r4 := (hR6.cell 4).trans rfl
      have r5 := (hR6.cell 5).trans rfl
      have f0 := hR6.frozen 0
      have f1 := hR6.frozen 1
      have f2 := hR6.frozen 2
      have f3 := hR6.frozen 3
      have f4 := hR6.frozen 4
      have f5 := hR6.frozen 5
      go_wp2
      try simp only [Exit.inBlock, Exit.then]
      have hcf : Chg [g + 1] wr _ := (Chg.refl [g + 1] wr).sixK (g := g + 1) (by simp) (.int .u64 kr.hard.term) (.int .i64 kr.hard.vote) (.int .u64 kr.snap.index) (.int .u64 kr.snap.term) (.slice As kr.snap.state.length cs) (.slice Ae kr.ents.length ce)
      refine bodyPost_ret (results_cell_row rfl _ _ (g + 1) 33 #[.int .u64 kr.hard.term, .int .i64 kr.hard.vote, .int .u64 kr.snap.index, .int .u64 kr.snap.term, .slice As kr.snap.state.length cs, .slice Ae kr.ents.length ce] (0, 0) _ rfl (Blk.sixK hR6 _ _ _ _ _ _) Try.underlying33 rfl (by kernel_rfl)) rfl ?_
      have hin : ∀ j, j ∈ [g + 1] → j < wr.heap.size → XK X g j := fun j hj _ => by have := List.mem_singleton.1 hj; exact .inr ⟨by omega, by omega⟩
      exact ⟨As, cs, Ae, ce, rfl, (hFs.chg hcf hin).mono (fun j _ h => .inl h), (hFe.chg hcf hin).mono (fun j _ h => .inl h), ((hxw.then_ hxr (by simp; omega)).then_ hcf (by simp; omega))⟩
end Go.Proofs.Ytboncnlcomeahaa

/- The law StoreFolds' walk. -/
namespace Go.Proofs.Ytboncnlcomeahaa
set_option linter.unusedVariables false
set_option linter.unusedSimpArgs false
set_option linter.unnecessarySimpa false
set_option maxRecDepth 100000
open Go.RowKit
abbrev XG (g : Nat) : Avoid := fun j => j = g ∨ j = g + 1
theorem RfAt.chg {X : Avoid} {w w' : World} {g h : Nat} {k : Kp} (hr : RfAt X w g k) (hc : Chg [h] w w') (hne : g ≠ h) (hX : X h) : RfAt X w' g k := by
  obtain ⟨As, cs, Ae, ce, h1, h2, h3⟩ := hr
  exact ⟨As, cs, Ae, ce, h1.chg hc (by simpa using hne), h2.chg hc (fun j hj _ => by rw [List.mem_singleton.1 hj]; exact hX), h3.chg hc (fun j hj _ => by rw [List.mem_singleton.1 hj]; exact hX)⟩
set_option maxHeartbeats 12800000 in
theorem storeFolds_walk (xl : Value) (l : List Rec) (w : World) (hl : Enc.Sl reE w noneAt xl l) :
    Calls Try.prog 3 #[xl] w fun e w' => e = .returned (.bool true) ∧ Ext w w' := by
  obtain ⟨Ax, cx, rfl, -, -⟩ := hl.form
  have hwl : ∀ r ∈ l, r.wide := Sl.wides hl
  go_enter Try.func3, Try.ntmps3
  go_wp2_with fail
  refine (begun23_b w).mono ?_
  rintro e w1 ⟨rfl, hx⟩
  go_wp2_with fail
  refine (plain_b (.slice Ax l.length cx) l w1 (hl.ext hx)).mono ?_
  rintro e w2 ⟨b, rfl, hx_, hp_⟩
  cases b with
  | false =>
    go_wp2
    go_ret
    exact ⟨rfl, hx.trans' hx_⟩
  | true =>
  have hp := hp_ rfl
  replace hx := hx.trans' hx_
  clear hx_ hp_
  have hll : ∀ r ∈ l, r.wide ∧ r.small := fun r hr => ⟨hwl r hr, hp.small r hr⟩
  have hlen := hp.len
  clear hp hwl
  obtain ⟨hB, hC, hz⟩ := two_alK w2 33 33 zKept zKept
  obtain ⟨g, hg⟩ : ∃ g, w2.heap.size = g := ⟨_, rfl⟩
  rw [hg] at hB hC
  have hgw : w.heap.size ≤ g := by have := hx.size; omega
  go_upto_region 6 with fail
  try rw [hg]
  clear hg
  generalize ((w2.alloc (.cells zKept 33)).alloc (.cells zKept 33)) = w3 at *
  replace hx := hx.trans' hz
  clear hz
  have hlX : Enc.Sl reE w (XG g) (.slice Ax l.length cx) l := hl.mono (fun j hj h => by rcases h with h | h <;> omega)
  have hF1 : RfAt (XG g) w3 g Kp0 := ⟨none, 0, none, 0, hB, Enc.BsX.nil _ _, Enc.Sl.nil _ _ _⟩
  have hF2 : RfAt (XG g) w3 (g + 1) Kp0 := ⟨none, 0, none, 0, hC, Enc.BsX.nil _ _, Enc.Sl.nil _ _ _⟩
  clear hB hC
  go_wp2_with fail
  go_loopw [5] (fun i wr => ∃ m : Nat, m ≤ l.length ∧ i = .int .i64 m ∧ RfAt (XG g) wr g (kfold Kp0 (l.take m)) ∧ RfAt (XG g) wr (g + 1) (kfold Kp0 (l.take m)) ∧ Ext w wr) (fun i _ => (l.length - intOf i).toNat)
  case atStart => exact ⟨0, by omega, rfl, hF1, hF2, hx⟩
  case round =>
    clear hF1 hF2 hx
    obtain ⟨m, hm, rfl, hF1, hF2, hx⟩ := hrel
    have hsm := Kp.small.fold (l.take m) Kp0.small_ (fun r hr => (hll r (List.mem_of_mem_take hr)).2)
    have hwd := Kp.wide.fold (l.take m) Kp0.wide_ (fun r hr => (hll r (List.mem_of_mem_take hr)).1)
    rw [List.length_take, Nat.min_eq_left hm, Nat.zero_add] at hsm
    by_cases hlt : m < l.length
    · obtain ⟨ad, r, v1, v2, rfl, hr, hbk, p0, p1, p2, p3, p4, p5, p6, p7, p8, r1, r2, r3⟩ := re_at hlX hlt
      have hfs : kfold Kp0 (l.take (m + 1)) = kfold (kfold Kp0 (l.take m)) [r] := by rw [take_snoc hr.out, kfold_app]
      obtain ⟨km, hkm⟩ : ∃ q, kfold Kp0 (l.take m) = q := ⟨_, rfl⟩
      rw [hkm] at hF1 hF2 hsm hwd hfs
      clear hkm
      obtain ⟨kn, hkn⟩ : ∃ q, kfold km [r] = q := ⟨_, rfl⟩
      rw [hkn] at hfs
      have HFS := hide hfs
      have HKN := hide hkn
      clear hfs hkn
      have hr1_ : ∀ q ∈ [r], q.wide ∧ q.small := fun q hq => by rw [List.mem_singleton.1 hq]; exact hll r (List.mem_of_getElem? hr.out)
      obtain ⟨A1, c1, rfl, -, -, -⟩ := id r2.1
      obtain ⟨A2, c2, rfl, -, -, -⟩ := id r3.1
      have hm0 : (0 : Int) ≤ m := by omega
      have hml : (m : Int) < l.length := by omega
      have HLT := hide hlt
      clear hlt
      obtain ⟨As, cs, Ae, ce, hM, hMs, hMe⟩ := hF1
      have hF2l : g + 1 < wr.heap.size := by obtain ⟨_, _, _, _, h1, -⟩ := hF2; exact h1.lt
      have hgW : g + 1 < wr.heap.size := hF2l
      go_upto_region 9 with fail
      refine Rg.regionT Try.checked.mixed 47 6 (by kernel_rfl) [
        (fun x_ _ => x_ = .agg #[.int .u64 km.hard.term, .int .i64 km.hard.vote, .int .u64 km.snap.index, .int .u64 km.snap.term, .slice As km.snap.state.length cs, .slice Ae km.ents.length ce]),
        (fun x_ _ => x_ = .slice (some ad) l.length cx),
        (fun x_ _ => x_ = .int .i64 m),
        (fun x_ _ => x_ = .pointer (some (ad.add (m * 9)))),
        (fun x_ _ => x_ = .agg #[.int .i64 r.kind, .int .u64 r.hard.term, .int .i64 r.hard.vote, .int .u64 r.ent.term, .slice A1 r.ent.data.length c1, .int .u64 r.index, .int .u64 r.snap.index, .int .u64 r.snap.term, .slice A2 r.snap.state.length c2]),
        (fun v W => ∃ b, v = .slice (some ⟨b, 0, none⟩) 1 1 ∧ Enc.Sl reE W (XG g) (.slice (some ⟨b, 0, none⟩) 1 1) [r])] (fun W => Ext wr W) Ext rfl rfl rfl
        ?st ((Ext.rfl' wr).drew') ?ob ?en
      case st => exact ⟨fun _ _ _ h _ => h, fun _ _ _ h _ => h, fun _ _ _ h _ => h, fun _ _ _ h _ => h, fun _ _ _ h _ => h, fun _ _ _ ⟨a1_, h1_, h2_⟩ hx => ⟨a1_, h1_, h2_.ext hx⟩, trivial⟩
      case ob =>
        refine ⟨Rg.at_run [3] rfl ?_, ?_⟩
        · intro ρ W hR ⟨q3, _⟩
          replace q3 : ρ 3 = .pointer (some ⟨g, 0, none⟩) := q3
          refine ⟨rfl, ?_⟩
          have c0_ : W.cell? ⟨g, 0, none⟩ = some (.int .u64 km.hard.term) := ((hM.ext hR).cell 0).trans rfl
          have c1_ : W.cell? ⟨g, 1, none⟩ = some (.int .i64 km.hard.vote) := ((hM.ext hR).cell 1).trans rfl
          have c2_ : W.cell? ⟨g, 2, none⟩ = some (.int .u64 km.snap.index) := ((hM.ext hR).cell 2).trans rfl
          have c3_ : W.cell? ⟨g, 3, none⟩ = some (.int .u64 km.snap.term) := ((hM.ext hR).cell 3).trans rfl
          have c4_ : W.cell? ⟨g, 4, none⟩ = some (.slice As km.snap.state.length cs) := ((hM.ext hR).cell 4).trans rfl
          have c5_ : W.cell? ⟨g, 5, none⟩ = some (.slice Ae km.ents.length ce) := ((hM.ext hR).cell 5).trans rfl
          exact Rg.run_ok (v := .agg #[.int .u64 km.hard.term, .int .i64 km.hard.vote, .int .u64 km.snap.index, .int .u64 km.snap.term, .slice As km.snap.state.length cs, .slice Ae km.ents.length ce]) (by simp [execOp, Rg.ev, go_sem, q3, c0_, c1_, c2_, c3_, c4_, c5_]) ⟨rfl, hR, Ext.rfl' _⟩
        refine ⟨Rg.at_run [0] rfl ?_, ?_⟩
        · intro ρ W hR ⟨q0, _⟩
          replace q0 : ρ 0 = .slice (some ad) l.length cx := q0
          refine ⟨rfl, ?_⟩
          exact Rg.run_ok (v := .slice (some ad) l.length cx) (by simp [execOp, Rg.ev, go_sem, q0]) ⟨rfl, hR, Ext.rfl' _⟩
        refine ⟨Rg.at_run [5] rfl ?_, ?_⟩
        · intro ρ W hR ⟨q5, _⟩
          replace q5 : ρ 5 = .int .i64 m := q5
          refine ⟨rfl, ?_⟩
          exact Rg.run_ok (v := .int .i64 m) (by simp [execOp, Rg.ev, go_sem, q5]) ⟨rfl, hR, Ext.rfl' _⟩
        refine ⟨Rg.at_run [18, 19] rfl ?_, ?_⟩
        · intro ρ W hR ⟨q18, q19, _⟩
          replace q18 : ρ 18 = .slice (some ad) l.length cx := q18
          replace q19 : ρ 19 = .int .i64 m := q19
          refine ⟨rfl, ?_⟩
          exact Rg.run_ok (v := .pointer (some (ad.add (m * 9)))) (by simp [execOp, Rg.ev, go_sem, q18, q19, hm0, hml]) ⟨rfl, hR, Ext.rfl' _⟩
        refine ⟨Rg.at_run [20] rfl ?_, ?_⟩
        · intro ρ W hR ⟨q20, _⟩
          replace q20 : ρ 20 = .pointer (some (ad.add (m * 9))) := q20
          refine ⟨rfl, ?_⟩
          have hab_ : (ad.add (m * 9)).block < w.heap.size := by rw [block_of_add]; exact hbk
          have c0_ : W.cell? (ad.add (m * 9)) = some (.int .i64 r.kind) := ((hx.trans' hR).cell (p := (ad.add (m * 9))) hab_).trans p0
          have c1_ : W.cell? ⟨(ad.add (m * 9)).block, (ad.add (m * 9)).off + 1, none⟩ = some (.int .u64 r.hard.term) := ((hx.trans' hR).cell (p := ⟨(ad.add (m * 9)).block, (ad.add (m * 9)).off + 1, none⟩) hab_).trans p1
          have c2_ : W.cell? ⟨(ad.add (m * 9)).block, (ad.add (m * 9)).off + 2, none⟩ = some (.int .i64 r.hard.vote) := ((hx.trans' hR).cell (p := ⟨(ad.add (m * 9)).block, (ad.add (m * 9)).off + 2, none⟩) hab_).trans p2
          have c3_ : W.cell? ⟨(ad.add (m * 9)).block, (ad.add (m * 9)).off + 3, none⟩ = some (.int .u64 r.ent.term) := ((hx.trans' hR).cell (p := ⟨(ad.add (m * 9)).block, (ad.add (m * 9)).off + 3, none⟩) hab_).trans p3
          have c4_ : W.cell? ⟨(ad.add (m * 9)).block, (ad.add (m * 9)).off + 4, none⟩ = some (.slice A1 r.ent.data.length c1) := ((hx.trans' hR).cell (p := ⟨(ad.add (m * 9)).block, (ad.add (m * 9)).off + 4, none⟩) hab_).trans p4
          have c5_ : W.cell? ⟨(ad.add (m * 9)).block, (ad.add (m * 9)).off + 5, none⟩ = some (.int .u64 r.index) := ((hx.trans' hR).cell (p := ⟨(ad.add (m * 9)).block, (ad.add (m * 9)).off + 5, none⟩) hab_).trans p5
          have c6_ : W.cell? ⟨(ad.add (m * 9)).block, (ad.add (m * 9)).off + 6, none⟩ = some (.int .u64 r.snap.index) := ((hx.trans' hR).cell (p := ⟨(ad.add (m * 9)).block, (ad.add (m * 9)).off + 6, none⟩) hab_).trans p6
          have c7_ : W.cell? ⟨(ad.add (m * 9)).block, (ad.add (m * 9)).off + 7, none⟩ = some (.int .u64 r.snap.term) := ((hx.trans' hR).cell (p := ⟨(ad.add (m * 9)).block, (ad.add (m * 9)).off + 7, none⟩) hab_).trans p7
          have c8_ : W.cell? ⟨(ad.add (m * 9)).block, (ad.add (m * 9)).off + 8, none⟩ = some (.slice A2 r.snap.state.length c2) := ((hx.trans' hR).cell (p := ⟨(ad.add (m * 9)).block, (ad.add (m * 9)).off + 8, none⟩) hab_).trans p8
          exact Rg.run_ok (v := .agg #[.int .i64 r.kind, .int .u64 r.hard.term, .int .i64 r.hard.vote, .int .u64 r.ent.term, .slice A1 r.ent.data.length c1, .int .u64 r.index, .int .u64 r.snap.index, .int .u64 r.snap.term, .slice A2 r.snap.state.length c2]) (by simp [execOp, Rg.ev, go_sem, q20, c0_, c1_, c2_, c3_, c4_, c5_, c6_, c7_, c8_]) ⟨rfl, hR, Ext.rfl' _⟩
        refine ⟨Rg.at_run [21] rfl ?_, ?_⟩
        · intro ρ W hR ⟨q21, _⟩
          replace q21 : ρ 21 = .agg #[.int .i64 r.kind, .int .u64 r.hard.term, .int .i64 r.hard.vote, .int .u64 r.ent.term, .slice A1 r.ent.data.length c1, .int .u64 r.index, .int .u64 r.snap.index, .int .u64 r.snap.term, .slice A2 r.snap.state.length c2] := q21
          refine ⟨rfl, ?_⟩
          have h9 := Sl.one (E := reE) 38 (w := W) (X := XG g) (cs := recells r (.slice A1 r.ent.data.length c1) (.slice A2 r.snap.state.length c2)) (re_rep.2 ⟨_, _, rfl, r1, r2.ext (hx.trans' hR), r3.ext (hx.trans' hR)⟩) W.heap.size rfl (fun h => by have h1 := hgW; have h2 := hR.size; rcases h with h | h <;> omega)
          exact Rg.run_ok (v := .slice (some ⟨W.heap.size, 0, none⟩) 1 1) (W' := W.alloc (.cells #[.int .i64 r.kind, .int .u64 r.hard.term, .int .i64 r.hard.vote, .int .u64 r.ent.term, .slice A1 r.ent.data.length c1, .int .u64 r.index, .int .u64 r.snap.index, .int .u64 r.snap.term, .slice A2 r.snap.state.length c2] 38)) (by simp [execOp, Rg.ev, go_sem, q21] <;> rfl) ⟨⟨_, rfl, h9⟩, hR.trans' ((Ext.rfl' W).alloc' _), (Ext.rfl' W).alloc' _⟩
        trivial
      case en =>
        intro tm W hR hsz hk
        rw [Rg.fin_eq (ds := [17, 18, 19, 20, 21, 22]) rfl rfl rfl hsz hk]
        have k17 : tm.getD 17 undef = .agg #[.int .u64 km.hard.term, .int .i64 km.hard.vote, .int .u64 km.snap.index, .int .u64 km.snap.term, .slice As km.snap.state.length cs, .slice Ae km.ents.length ce] := hk 17
        have k18 : tm.getD 18 undef = .slice (some ad) l.length cx := hk 18
        have k19 : tm.getD 19 undef = .int .i64 m := hk 19
        have k20 : tm.getD 20 undef = .pointer (some (ad.add (m * 9))) := hk 20
        have k21 : tm.getD 21 undef = .agg #[.int .i64 r.kind, .int .u64 r.hard.term, .int .i64 r.hard.vote, .int .u64 r.ent.term, .slice A1 r.ent.data.length c1, .int .u64 r.index, .int .u64 r.snap.index, .int .u64 r.snap.term, .slice A2 r.snap.state.length c2] := hk 21
        have k22 : (fun v W => ∃ b, v = .slice (some ⟨b, 0, none⟩) 1 1 ∧ Enc.Sl reE W (XG g) (.slice (some ⟨b, 0, none⟩) 1 1) [r]) (tm.getD 22 undef) W := hk 22
        clear hk hsz
        simp only [Rg.putAll, List.setIfInBounds_toArray, List.set_cons_zero, List.set_cons_succ, k17, k18, k19, k20, k21]
        clear k17
        clear k18
        clear k19
        clear k20
        clear k21
        generalize tm.getD 22 undef = u22 at *

        obtain ⟨b9, rfl, hl9⟩ := k22
        go_wp2_with fail
        refine (fold_b (XG g) km (.slice As km.snap.state.length cs) (.slice Ae km.ents.length ce) (.slice (some ⟨b9, 0, none⟩) 1 1) [r] m W (fun j hj => by have := hR.size; rcases hj with h | h <;> omega) hwd hsm (hMs.ext hR) (hMe.ext hR) hl9 hr1_ (by simp; omega)).mono ?_
        rw [HKN.out]
        rintro e w5 ⟨As2, cs2, Ae2, ce2, rfl, hs2, ho2, hx2⟩
        have hRx := hR.trans' hx2
        have hM5 := hM.ext hRx
        replace hs2 := hs2.mono (Y := XG g) (fun j _ h => .inl h)
        have he2 := ho2.sl
        have hF5 := hF2.ext hRx
        replace hx := hx.trans' hRx
        clear hl9 ho2 hMs hMe hM hF2
        have a0 := (hM5.cell 0).trans rfl
        have fa0 := hM5.frozen 0
        have a1 := (hM5.cell 1).trans rfl
        have fa1 := hM5.frozen 1
        have a2 := (hM5.cell 2).trans rfl
        have fa2 := hM5.frozen 2
        have a3 := (hM5.cell 3).trans rfl
        have fa3 := hM5.frozen 3
        have a4 := (hM5.cell 4).trans rfl
        have fa4 := hM5.frozen 4
        have a5 := (hM5.cell 5).trans rfl
        have fa5 := hM5.frozen 5
        go_upto_region 10 with fail
        try rw [hg9]
        have hcg : Chg [g] w5 _ := (Chg.refl [g] w5).sixK (g := g) (by simp) (.int .u64 kn.hard.term) (.int .i64 kn.hard.vote) (.int .u64 kn.snap.index) (.int .u64 kn.snap.term) (.slice As2 kn.snap.state.length cs2) (.slice Ae2 kn.ents.length ce2)
        have hB6 := Blk.sixK hM5 (.int .u64 kn.hard.term) (.int .i64 kn.hard.vote) (.int .u64 kn.snap.index) (.int .u64 kn.snap.term) (.slice As2 kn.snap.state.length cs2) (.slice Ae2 kn.ents.length ce2)
        generalize ((((((w5.setCell ⟨g, 0, none⟩ (.int .u64 kn.hard.term)).setCell ⟨g, 1, none⟩ (.int .i64 kn.hard.vote)).setCell ⟨g, 2, none⟩ (.int .u64 kn.snap.index)).setCell ⟨g, 3, none⟩ (.int .u64 kn.snap.term)).setCell ⟨g, 4, none⟩ (.slice As2 kn.snap.state.length cs2)).setCell ⟨g, 5, none⟩ (.slice Ae2 kn.ents.length ce2)) = W6 at *
        replace hs2 := hs2.chg hcg (fun j hj _ => .inl (List.mem_singleton.1 hj))
        replace he2 := he2.chg hcg (fun j hj _ => .inl (List.mem_singleton.1 hj))
        replace hF5 := hF5.chg hcg (by omega) (.inl rfl)
        replace hx := hx.then_ hcg (by simp; omega)
        obtain ⟨As3, cs3, Ae3, ce3, hN, hNs, hNe⟩ := hF5
        have hgW : g + 1 < W6.heap.size := hN.lt
        refine Rg.regionT Try.checked.mixed 47 6 (by kernel_rfl) [
          (fun x_ _ => x_ = .agg #[.int .u64 km.hard.term, .int .i64 km.hard.vote, .int .u64 km.snap.index, .int .u64 km.snap.term, .slice As3 km.snap.state.length cs3, .slice Ae3 km.ents.length ce3]),
          (fun x_ _ => x_ = .slice (some ad) l.length cx),
          (fun x_ _ => x_ = .int .i64 m),
          (fun x_ _ => x_ = .pointer (some (ad.add (m * 9)))),
          (fun x_ _ => x_ = .agg #[.int .i64 r.kind, .int .u64 r.hard.term, .int .i64 r.hard.vote, .int .u64 r.ent.term, .slice A1 r.ent.data.length c1, .int .u64 r.index, .int .u64 r.snap.index, .int .u64 r.snap.term, .slice A2 r.snap.state.length c2]),
          (fun v W => ∃ b, v = .slice (some ⟨b, 0, none⟩) 1 1 ∧ Enc.Sl reE W (XG g) (.slice (some ⟨b, 0, none⟩) 1 1) [r])] (fun W => Ext W6 W) Ext rfl rfl rfl
          ?st ((Ext.rfl' W6).drew') ?ob ?en
        case st => exact ⟨fun _ _ _ h _ => h, fun _ _ _ h _ => h, fun _ _ _ h _ => h, fun _ _ _ h _ => h, fun _ _ _ h _ => h, fun _ _ _ ⟨a1_, h1_, h2_⟩ hx => ⟨a1_, h1_, h2_.ext hx⟩, trivial⟩
        case ob =>
          refine ⟨Rg.at_run [4] rfl ?_, ?_⟩
          · intro ρ W hR ⟨q4, _⟩
            replace q4 : ρ 4 = .pointer (some ⟨g + 1, 0, none⟩) := q4
            refine ⟨rfl, ?_⟩
            have c0_ : W.cell? ⟨g + 1, 0, none⟩ = some (.int .u64 km.hard.term) := ((hN.ext hR).cell 0).trans rfl
            have c1_ : W.cell? ⟨g + 1, 1, none⟩ = some (.int .i64 km.hard.vote) := ((hN.ext hR).cell 1).trans rfl
            have c2_ : W.cell? ⟨g + 1, 2, none⟩ = some (.int .u64 km.snap.index) := ((hN.ext hR).cell 2).trans rfl
            have c3_ : W.cell? ⟨g + 1, 3, none⟩ = some (.int .u64 km.snap.term) := ((hN.ext hR).cell 3).trans rfl
            have c4_ : W.cell? ⟨g + 1, 4, none⟩ = some (.slice As3 km.snap.state.length cs3) := ((hN.ext hR).cell 4).trans rfl
            have c5_ : W.cell? ⟨g + 1, 5, none⟩ = some (.slice Ae3 km.ents.length ce3) := ((hN.ext hR).cell 5).trans rfl
            exact Rg.run_ok (v := .agg #[.int .u64 km.hard.term, .int .i64 km.hard.vote, .int .u64 km.snap.index, .int .u64 km.snap.term, .slice As3 km.snap.state.length cs3, .slice Ae3 km.ents.length ce3]) (by simp [execOp, Rg.ev, go_sem, q4, c0_, c1_, c2_, c3_, c4_, c5_]) ⟨rfl, hR, Ext.rfl' _⟩
          refine ⟨Rg.at_run [0] rfl ?_, ?_⟩
          · intro ρ W hR ⟨q0, _⟩
            replace q0 : ρ 0 = .slice (some ad) l.length cx := q0
            refine ⟨rfl, ?_⟩
            exact Rg.run_ok (v := .slice (some ad) l.length cx) (by simp [execOp, Rg.ev, go_sem, q0]) ⟨rfl, hR, Ext.rfl' _⟩
          refine ⟨Rg.at_run [5] rfl ?_, ?_⟩
          · intro ρ W hR ⟨q5, _⟩
            replace q5 : ρ 5 = .int .i64 m := q5
            refine ⟨rfl, ?_⟩
            exact Rg.run_ok (v := .int .i64 m) (by simp [execOp, Rg.ev, go_sem, q5]) ⟨rfl, hR, Ext.rfl' _⟩
          refine ⟨Rg.at_run [25, 26] rfl ?_, ?_⟩
          · intro ρ W hR ⟨q25, q26, _⟩
            replace q25 : ρ 25 = .slice (some ad) l.length cx := q25
            replace q26 : ρ 26 = .int .i64 m := q26
            refine ⟨rfl, ?_⟩
            exact Rg.run_ok (v := .pointer (some (ad.add (m * 9)))) (by simp [execOp, Rg.ev, go_sem, q25, q26, hm0, hml]) ⟨rfl, hR, Ext.rfl' _⟩
          refine ⟨Rg.at_run [27] rfl ?_, ?_⟩
          · intro ρ W hR ⟨q27, _⟩
            replace q27 : ρ 27 = .pointer (some (ad.add (m * 9))) := q27
            refine ⟨rfl, ?_⟩
            have hab_ : (ad.add (m * 9)).block < w.heap.size := by rw [block_of_add]; exact hbk
            have c0_ : W.cell? (ad.add (m * 9)) = some (.int .i64 r.kind) := ((hx.trans' hR).cell (p := (ad.add (m * 9))) hab_).trans p0
            have c1_ : W.cell? ⟨(ad.add (m * 9)).block, (ad.add (m * 9)).off + 1, none⟩ = some (.int .u64 r.hard.term) := ((hx.trans' hR).cell (p := ⟨(ad.add (m * 9)).block, (ad.add (m * 9)).off + 1, none⟩) hab_).trans p1
            have c2_ : W.cell? ⟨(ad.add (m * 9)).block, (ad.add (m * 9)).off + 2, none⟩ = some (.int .i64 r.hard.vote) := ((hx.trans' hR).cell (p := ⟨(ad.add (m * 9)).block, (ad.add (m * 9)).off + 2, none⟩) hab_).trans p2
            have c3_ : W.cell? ⟨(ad.add (m * 9)).block, (ad.add (m * 9)).off + 3, none⟩ = some (.int .u64 r.ent.term) := ((hx.trans' hR).cell (p := ⟨(ad.add (m * 9)).block, (ad.add (m * 9)).off + 3, none⟩) hab_).trans p3
            have c4_ : W.cell? ⟨(ad.add (m * 9)).block, (ad.add (m * 9)).off + 4, none⟩ = some (.slice A1 r.ent.data.length c1) := ((hx.trans' hR).cell (p := ⟨(ad.add (m * 9)).block, (ad.add (m * 9)).off + 4, none⟩) hab_).trans p4
            have c5_ : W.cell? ⟨(ad.add (m * 9)).block, (ad.add (m * 9)).off + 5, none⟩ = some (.int .u64 r.index) := ((hx.trans' hR).cell (p := ⟨(ad.add (m * 9)).block, (ad.add (m * 9)).off + 5, none⟩) hab_).trans p5
            have c6_ : W.cell? ⟨(ad.add (m * 9)).block, (ad.add (m * 9)).off + 6, none⟩ = some (.int .u64 r.snap.index) := ((hx.trans' hR).cell (p := ⟨(ad.add (m * 9)).block, (ad.add (m * 9)).off + 6, none⟩) hab_).trans p6
            have c7_ : W.cell? ⟨(ad.add (m * 9)).block, (ad.add (m * 9)).off + 7, none⟩ = some (.int .u64 r.snap.term) := ((hx.trans' hR).cell (p := ⟨(ad.add (m * 9)).block, (ad.add (m * 9)).off + 7, none⟩) hab_).trans p7
            have c8_ : W.cell? ⟨(ad.add (m * 9)).block, (ad.add (m * 9)).off + 8, none⟩ = some (.slice A2 r.snap.state.length c2) := ((hx.trans' hR).cell (p := ⟨(ad.add (m * 9)).block, (ad.add (m * 9)).off + 8, none⟩) hab_).trans p8
            exact Rg.run_ok (v := .agg #[.int .i64 r.kind, .int .u64 r.hard.term, .int .i64 r.hard.vote, .int .u64 r.ent.term, .slice A1 r.ent.data.length c1, .int .u64 r.index, .int .u64 r.snap.index, .int .u64 r.snap.term, .slice A2 r.snap.state.length c2]) (by simp [execOp, Rg.ev, go_sem, q27, c0_, c1_, c2_, c3_, c4_, c5_, c6_, c7_, c8_]) ⟨rfl, hR, Ext.rfl' _⟩
          refine ⟨Rg.at_run [28] rfl ?_, ?_⟩
          · intro ρ W hR ⟨q28, _⟩
            replace q28 : ρ 28 = .agg #[.int .i64 r.kind, .int .u64 r.hard.term, .int .i64 r.hard.vote, .int .u64 r.ent.term, .slice A1 r.ent.data.length c1, .int .u64 r.index, .int .u64 r.snap.index, .int .u64 r.snap.term, .slice A2 r.snap.state.length c2] := q28
            refine ⟨rfl, ?_⟩
            have h9 := Sl.one (E := reE) 38 (w := W) (X := XG g) (cs := recells r (.slice A1 r.ent.data.length c1) (.slice A2 r.snap.state.length c2)) (re_rep.2 ⟨_, _, rfl, r1, r2.ext (hx.trans' hR), r3.ext (hx.trans' hR)⟩) W.heap.size rfl (fun h => by have h1 := hgW; have h2 := hR.size; rcases h with h | h <;> omega)
            exact Rg.run_ok (v := .slice (some ⟨W.heap.size, 0, none⟩) 1 1) (W' := W.alloc (.cells #[.int .i64 r.kind, .int .u64 r.hard.term, .int .i64 r.hard.vote, .int .u64 r.ent.term, .slice A1 r.ent.data.length c1, .int .u64 r.index, .int .u64 r.snap.index, .int .u64 r.snap.term, .slice A2 r.snap.state.length c2] 38)) (by simp [execOp, Rg.ev, go_sem, q28] <;> rfl) ⟨⟨_, rfl, h9⟩, hR.trans' ((Ext.rfl' W).alloc' _), (Ext.rfl' W).alloc' _⟩
          trivial
        case en =>
          intro tm W hR hsz hk
          rw [Rg.fin_eq (ds := [24, 25, 26, 27, 28, 29]) rfl rfl rfl hsz hk]
          have k24 : tm.getD 24 undef = .agg #[.int .u64 km.hard.term, .int .i64 km.hard.vote, .int .u64 km.snap.index, .int .u64 km.snap.term, .slice As3 km.snap.state.length cs3, .slice Ae3 km.ents.length ce3] := hk 24
          have k25 : tm.getD 25 undef = .slice (some ad) l.length cx := hk 25
          have k26 : tm.getD 26 undef = .int .i64 m := hk 26
          have k27 : tm.getD 27 undef = .pointer (some (ad.add (m * 9))) := hk 27
          have k28 : tm.getD 28 undef = .agg #[.int .i64 r.kind, .int .u64 r.hard.term, .int .i64 r.hard.vote, .int .u64 r.ent.term, .slice A1 r.ent.data.length c1, .int .u64 r.index, .int .u64 r.snap.index, .int .u64 r.snap.term, .slice A2 r.snap.state.length c2] := hk 28
          have k29 : (fun v W => ∃ b, v = .slice (some ⟨b, 0, none⟩) 1 1 ∧ Enc.Sl reE W (XG g) (.slice (some ⟨b, 0, none⟩) 1 1) [r]) (tm.getD 29 undef) W := hk 29
          clear hk hsz
          simp only [Rg.putAll, List.setIfInBounds_toArray, List.set_cons_zero, List.set_cons_succ, k24, k25, k26, k27, k28]
          clear k24
          clear k25
          clear k26
          clear k27
          clear k28
          generalize tm.getD 29 undef = u29 at *
  
          obtain ⟨b9, rfl, hl9⟩ := k29
          go_wp2_with fail
          refine (rfold_b (XG g) km (.slice As3 km.snap.state.length cs3) (.slice Ae3 km.ents.length ce3) (.slice (some ⟨b9, 0, none⟩) 1 1) [r] m W (fun j hj => by have := hR.size; rcases hj with h | h <;> omega) hwd hsm (hNs.ext hR) (hNe.ext hR) hl9 hr1_ (by simp; omega)).mono ?_
          rw [HKN.out]
          rintro e w7 ⟨As4, cs4, Ae4, ce4, rfl, hs4, he4, hx7⟩
          have hRx := hR.trans' hx7
          have hN7 := hN.ext hRx
          replace hB6 := hB6.ext hRx
          replace hs2 := hs2.ext hRx
          replace he2 := he2.ext hRx
          replace hx := hx.trans' hRx
          clear hl9 hNs hNe hN
          have b0 := (hN7.cell 0).trans rfl
          have fb0 := hN7.frozen 0
          have b1 := (hN7.cell 1).trans rfl
          have fb1 := hN7.frozen 1
          have b2 := (hN7.cell 2).trans rfl
          have fb2 := hN7.frozen 2
          have b3 := (hN7.cell 3).trans rfl
          have fb3 := hN7.frozen 3
          have b4 := (hN7.cell 4).trans rfl
          have fb4 := hN7.frozen 4
          have b5 := (hN7.cell 5).trans rfl
          have fb5 := hN7.frozen 5
          go_upto_region 11 with fail
          have hcg2 : Chg [g + 1] w7 _ := (Chg.refl [g + 1] w7).sixK (g := g + 1) (by simp) (.int .u64 kn.hard.term) (.int .i64 kn.hard.vote) (.int .u64 kn.snap.index) (.int .u64 kn.snap.term) (.slice As4 kn.snap.state.length cs4) (.slice Ae4 kn.ents.length ce4)
          have hB8 := Blk.sixK hN7 (.int .u64 kn.hard.term) (.int .i64 kn.hard.vote) (.int .u64 kn.snap.index) (.int .u64 kn.snap.term) (.slice As4 kn.snap.state.length cs4) (.slice Ae4 kn.ents.length ce4)
          generalize ((((((w7.setCell ⟨g + 1, 0, none⟩ (.int .u64 kn.hard.term)).setCell ⟨g + 1, 1, none⟩ (.int .i64 kn.hard.vote)).setCell ⟨g + 1, 2, none⟩ (.int .u64 kn.snap.index)).setCell ⟨g + 1, 3, none⟩ (.int .u64 kn.snap.term)).setCell ⟨g + 1, 4, none⟩ (.slice As4 kn.snap.state.length cs4)).setCell ⟨g + 1, 5, none⟩ (.slice Ae4 kn.ents.length ce4)) = W8 at *
          replace hs4 := hs4.chg hcg2 (fun j hj _ => .inr (List.mem_singleton.1 hj))
          replace he4 := he4.chg hcg2 (fun j hj _ => .inr (List.mem_singleton.1 hj))
          replace hs2 := hs2.chg hcg2 (fun j hj _ => .inr (List.mem_singleton.1 hj))
          replace he2 := he2.chg hcg2 (fun j hj _ => .inr (List.mem_singleton.1 hj))
          replace hB6 := hB6.chg hcg2 (by simp)
          replace hx := hx.then_ hcg2 (by simp; omega)
          clear fb0 fb1 fb2 fb3 fb4 fb5
          clear b0 b1 b2 b3 b4 b5
          have a0 := (hB6.cell 0).trans rfl
          have a1 := (hB6.cell 1).trans rfl
          have a2 := (hB6.cell 2).trans rfl
          have a3 := (hB6.cell 3).trans rfl
          have a4 := (hB6.cell 4).trans rfl
          have a5 := (hB6.cell 5).trans rfl
          have b0 := (hB8.cell 0).trans rfl
          have b1 := (hB8.cell 1).trans rfl
          have b2 := (hB8.cell 2).trans rfl
          have b3 := (hB8.cell 3).trans rfl
          have b4 := (hB8.cell 4).trans rfl
          have b5 := (hB8.cell 5).trans rfl
          go_wp2_with fail
          refine (sameKept_b kn _ _ _ _ W8 hs2.1 hs4.1 (slN he2) (slN he4)).mono ?_
          rintro e w9 ⟨rfl, hx9⟩
          go_wp2_with fail
          go_roundw
          case rel => exact ⟨m + 1, by have := HLT.out; omega, by go_num, by rw [HFS.out]; exact ⟨_, _, _, _, hB6.ext hx9, hs2.ext hx9, he2.ext hx9⟩, by rw [HFS.out]; exact ⟨_, _, _, _, hB8.ext hx9, hs4.ext hx9, he4.ext hx9⟩, hx.trans' hx9⟩
          case measure => have := HLT.out; simp [intOf]; omega
    · obtain rfl : m = l.length := by omega
      rw [List.take_length] at hF1 hF2 hwd
      obtain ⟨kl_, hkl_⟩ : ∃ q, kfold Kp0 l = q := ⟨_, rfl⟩
      have hsm2 := Kp.small.fold l Kp0.small_ (fun r hr => (hll r hr).2)
      rw [Nat.zero_add] at hsm2
      rw [hkl_] at hF1 hF2 hwd hsm2
      have HKL := hide hkl_
      clear hkl_ hF1 hsm
      obtain ⟨kl, hkl⟩ : ∃ q, krecs kl_ = q := ⟨_, rfl⟩
      have HKR := hide hkl
      clear hkl
      obtain ⟨As, cs, Ae, ce, hM, hMs, hMe⟩ := hF2
      replace hMs : Bs wr _ _ := hMs.1
      replace hMe := slN hMe
      go_upto_region 13 with fail
      refine Rg.regionT Try.checked.mixed 47 13 (by kernel_rfl) [
        (fun x_ _ => x_ = .agg #[.int .u64 0, .int .i64 0, .int .u64 0, .int .u64 0, .slice none 0 0, .slice none 0 0]),
        (fun x_ _ => x_ = .slice Ax l.length cx),
        (fun v W => ∃ A c B d, v = .agg #[.int .u64 kl_.hard.term, .int .i64 kl_.hard.vote, .int .u64 kl_.snap.index, .int .u64 kl_.snap.term, .slice A kl_.snap.state.length c, .slice B kl_.ents.length d] ∧ Bs W (.slice A kl_.snap.state.length c) kl_.snap.state ∧ Enc.Sl enE W noneAt (.slice B kl_.ents.length d) kl_.ents),
        (fun x_ _ => x_ = .agg #[.int .u64 kl_.hard.term, .int .i64 kl_.hard.vote, .int .u64 kl_.snap.index, .int .u64 kl_.snap.term, .slice As kl_.snap.state.length cs, .slice Ae kl_.ents.length ce]),
        (fun x_ _ => x_ = .bool true),
        (fun x_ _ => x_ = .bool true),
        (fun x_ _ => x_ = .agg #[.int .u64 kl_.hard.term, .int .i64 kl_.hard.vote, .int .u64 kl_.snap.index, .int .u64 kl_.snap.term, .slice As kl_.snap.state.length cs, .slice Ae kl_.ents.length ce]),
        (fun v W => ∃ A c, v = .slice A kl.length c ∧ Enc.Sl reE W noneAt (.slice A kl.length c) kl),
        (fun x_ _ => x_ = .agg #[.int .u64 kl_.hard.term, .int .i64 kl_.hard.vote, .int .u64 kl_.snap.index, .int .u64 kl_.snap.term, .slice As kl_.snap.state.length cs, .slice Ae kl_.ents.length ce]),
        (fun v W => ∃ A c, v = .slice A kl.length c ∧ Enc.Sl reE W noneAt (.slice A kl.length c) kl),
        (fun x_ _ => x_ = .bool true),
        (fun x_ _ => x_ = .bool true),
        (fun x_ _ => x_ = .bool true)] (fun W => Ext wr W) Ext rfl rfl rfl
        ?st ((Ext.rfl' wr).drew') ?ob ?en
      case st => exact ⟨fun _ _ _ h _ => h, fun _ _ _ h _ => h, fun _ _ _ ⟨a1_, a2_, a3_, a4_, h1_, h2_, h3_⟩ hx => ⟨a1_, a2_, a3_, a4_, h1_, h2_.ext hx, h3_.ext hx⟩, fun _ _ _ h _ => h, fun _ _ _ h _ => h, fun _ _ _ h _ => h, fun _ _ _ h _ => h, fun _ _ _ ⟨a1_, a2_, h1_, h2_⟩ hx => ⟨a1_, a2_, h1_, h2_.ext hx⟩, fun _ _ _ h _ => h, fun _ _ _ ⟨a1_, a2_, h1_, h2_⟩ hx => ⟨a1_, a2_, h1_, h2_.ext hx⟩, fun _ _ _ h _ => h, fun _ _ _ h _ => h, fun _ _ _ h _ => h, trivial⟩
      case ob =>
        refine ⟨Rg.at_run [] rfl ?_, ?_⟩
        · intro ρ W hR _
          refine ⟨rfl, ?_⟩
          exact Rg.run_ok (v := .agg #[.int .u64 0, .int .i64 0, .int .u64 0, .int .u64 0, .slice none 0 0, .slice none 0 0]) (by simp [execOp, Rg.ev, go_sem] <;> rfl) ⟨rfl, hR, Ext.rfl' _⟩
        refine ⟨Rg.at_run [0] rfl ?_, ?_⟩
        · intro ρ W hR ⟨q0, _⟩
          replace q0 : ρ 0 = .slice Ax l.length cx := q0
          refine ⟨rfl, ?_⟩
          exact Rg.run_ok (v := .slice Ax l.length cx) (by simp [execOp, Rg.ev, go_sem, q0]) ⟨rfl, hR, Ext.rfl' _⟩
        refine ⟨Rg.at_run [35, 36] rfl ?_, ?_⟩
        · intro ρ W hR ⟨q35, q36, _⟩
          replace q35 : ρ 35 = .agg #[.int .u64 0, .int .i64 0, .int .u64 0, .int .u64 0, .slice none 0 0, .slice none 0 0] := q35
          replace q36 : ρ 36 = .slice Ax l.length cx := q36
          refine ⟨rfl, ?_⟩
          refine Rg.enter_fn (args := #[.agg #[.int .u64 0, .int .i64 0, .int .u64 0, .int .u64 0, .slice none 0 0, .slice none 0 0], .slice Ax l.length cx]) rfl (by simp only [List.map_toArray, List.map_cons, List.map_nil, Rg.ev, q35, q36]) (by kernel_rfl) ?_
          refine (fold_b noneAt Kp0 (.slice none 0 0) (.slice none 0 0) (.slice Ax l.length cx) l 0 W (fun _ h => h.elim) Kp0.wide_ Kp0.small_ (Enc.BsX.nil _ _) (Enc.Sl.nil _ _ _) (hl.ext (hx.trans' hR)) hll (by omega)).mono ?_
          rw [HKL.out]
          rintro e_ w9 ⟨A_, c_, B_, d_, rfl, h1_, h2_, hxx⟩
          exact ⟨_, rfl, ⟨_, _, _, _, rfl, h1_.1, (h2_.sl.mono fun _ _ h => h.elim)⟩, hR.trans' hxx, hxx⟩
        refine ⟨Rg.at_run [4] rfl ?_, ?_⟩
        · intro ρ W hR ⟨q4, _⟩
          replace q4 : ρ 4 = .pointer (some ⟨g + 1, 0, none⟩) := q4
          refine ⟨rfl, ?_⟩
          have c0_ : W.cell? ⟨g + 1, 0, none⟩ = some (.int .u64 kl_.hard.term) := ((hM.ext hR).cell 0).trans rfl
          have c1_ : W.cell? ⟨g + 1, 1, none⟩ = some (.int .i64 kl_.hard.vote) := ((hM.ext hR).cell 1).trans rfl
          have c2_ : W.cell? ⟨g + 1, 2, none⟩ = some (.int .u64 kl_.snap.index) := ((hM.ext hR).cell 2).trans rfl
          have c3_ : W.cell? ⟨g + 1, 3, none⟩ = some (.int .u64 kl_.snap.term) := ((hM.ext hR).cell 3).trans rfl
          have c4_ : W.cell? ⟨g + 1, 4, none⟩ = some (.slice As kl_.snap.state.length cs) := ((hM.ext hR).cell 4).trans rfl
          have c5_ : W.cell? ⟨g + 1, 5, none⟩ = some (.slice Ae kl_.ents.length ce) := ((hM.ext hR).cell 5).trans rfl
          exact Rg.run_ok (v := .agg #[.int .u64 kl_.hard.term, .int .i64 kl_.hard.vote, .int .u64 kl_.snap.index, .int .u64 kl_.snap.term, .slice As kl_.snap.state.length cs, .slice Ae kl_.ents.length ce]) (by simp [execOp, Rg.ev, go_sem, q4, c0_, c1_, c2_, c3_, c4_, c5_]) ⟨rfl, hR, Ext.rfl' _⟩
        refine ⟨Rg.at_run [37, 38] rfl ?_, ?_⟩
        · intro ρ W hR ⟨q37, q38, _⟩
          replace q37 : (fun v W => ∃ A c B d, v = .agg #[.int .u64 kl_.hard.term, .int .i64 kl_.hard.vote, .int .u64 kl_.snap.index, .int .u64 kl_.snap.term, .slice A kl_.snap.state.length c, .slice B kl_.ents.length d] ∧ Bs W (.slice A kl_.snap.state.length c) kl_.snap.state ∧ Enc.Sl enE W noneAt (.slice B kl_.ents.length d) kl_.ents) (ρ 37) W := q37
          replace q38 : ρ 38 = .agg #[.int .u64 kl_.hard.term, .int .i64 kl_.hard.vote, .int .u64 kl_.snap.index, .int .u64 kl_.snap.term, .slice As kl_.snap.state.length cs, .slice Ae kl_.ents.length ce] := q38
          refine ⟨rfl, ?_⟩
          obtain ⟨A9, c9, B9, d9, hv9, hb9, hl9⟩ := q37
          refine Rg.enter_fn (args := #[.agg #[.int .u64 kl_.hard.term, .int .i64 kl_.hard.vote, .int .u64 kl_.snap.index, .int .u64 kl_.snap.term, .slice A9 kl_.snap.state.length c9, .slice B9 kl_.ents.length d9], .agg #[.int .u64 kl_.hard.term, .int .i64 kl_.hard.vote, .int .u64 kl_.snap.index, .int .u64 kl_.snap.term, .slice As kl_.snap.state.length cs, .slice Ae kl_.ents.length ce]]) rfl (by simp only [List.map_toArray, List.map_cons, List.map_nil, Rg.ev, hv9, q38]) (by kernel_rfl) ?_
          refine (sameKept_b kl_ _ _ _ _ W hb9 (hMs.ext hR) hl9 (hMe.ext hR)).mono ?_
          rintro e_ w9 ⟨rfl, hxx⟩
          exact ⟨_, rfl, rfl, hR.trans' hxx, hxx⟩
        refine ⟨Rg.at_run [39] rfl ?_, ?_⟩
        · intro ρ W hR ⟨q39, _⟩
          replace q39 : ρ 39 = .bool true := q39
          refine ⟨rfl, ?_⟩
          exact Rg.run_ok (v := .bool true) (by simp [execOp, Rg.ev, go_sem, q39]) ⟨rfl, hR, Ext.rfl' _⟩
        refine ⟨Rg.at_run [4, 40] rfl ?_, ?_⟩
        · intro ρ W hR ⟨q4, q40, _⟩
          replace q4 : ρ 4 = .pointer (some ⟨g + 1, 0, none⟩) := q4
          replace q40 : ρ 40 = .bool true := q40
          refine ⟨by simp [Rg.wants, q40], ?_⟩
          have c0_ : W.cell? ⟨g + 1, 0, none⟩ = some (.int .u64 kl_.hard.term) := ((hM.ext hR).cell 0).trans rfl
          have c1_ : W.cell? ⟨g + 1, 1, none⟩ = some (.int .i64 kl_.hard.vote) := ((hM.ext hR).cell 1).trans rfl
          have c2_ : W.cell? ⟨g + 1, 2, none⟩ = some (.int .u64 kl_.snap.index) := ((hM.ext hR).cell 2).trans rfl
          have c3_ : W.cell? ⟨g + 1, 3, none⟩ = some (.int .u64 kl_.snap.term) := ((hM.ext hR).cell 3).trans rfl
          have c4_ : W.cell? ⟨g + 1, 4, none⟩ = some (.slice As kl_.snap.state.length cs) := ((hM.ext hR).cell 4).trans rfl
          have c5_ : W.cell? ⟨g + 1, 5, none⟩ = some (.slice Ae kl_.ents.length ce) := ((hM.ext hR).cell 5).trans rfl
          exact Rg.run_ok (v := .agg #[.int .u64 kl_.hard.term, .int .i64 kl_.hard.vote, .int .u64 kl_.snap.index, .int .u64 kl_.snap.term, .slice As kl_.snap.state.length cs, .slice Ae kl_.ents.length ce]) (by simp [execOp, Rg.ev, go_sem, q4, c0_, c1_, c2_, c3_, c4_, c5_]) ⟨rfl, hR, Ext.rfl' _⟩
        refine ⟨Rg.at_run [41, 40] rfl ?_, ?_⟩
        · intro ρ W hR ⟨q41, q40, _⟩
          replace q41 : ρ 41 = .agg #[.int .u64 kl_.hard.term, .int .i64 kl_.hard.vote, .int .u64 kl_.snap.index, .int .u64 kl_.snap.term, .slice As kl_.snap.state.length cs, .slice Ae kl_.ents.length ce] := q41
          replace q40 : ρ 40 = .bool true := q40
          refine ⟨by simp [Rg.wants, q40], ?_⟩
          refine Rg.enter_fn (args := #[.agg #[.int .u64 kl_.hard.term, .int .i64 kl_.hard.vote, .int .u64 kl_.snap.index, .int .u64 kl_.snap.term, .slice As kl_.snap.state.length cs, .slice Ae kl_.ents.length ce]]) rfl (by simp only [List.map_toArray, List.map_cons, List.map_nil, Rg.ev, q41]) (by kernel_rfl) ?_
          refine (records_b noneAt kl_ (.slice As kl_.snap.state.length cs) (.slice Ae kl_.ents.length ce) l.length W (fun _ h => h.elim) hwd hsm2 (.of (hMs.ext hR)) (hMe.ext hR) (by omega)).mono ?_
          rw [HKR.out]
          rintro e_ w9 ⟨m_, A_, c_, hm_, rfl, h1_, hxx⟩
          obtain rfl := hm_.out
          exact ⟨_, rfl, ⟨_, _, rfl, h1_.sl⟩, hR.trans' hxx, hxx⟩
        refine ⟨Rg.at_run [4, 40] rfl ?_, ?_⟩
        · intro ρ W hR ⟨q4, q40, _⟩
          replace q4 : ρ 4 = .pointer (some ⟨g + 1, 0, none⟩) := q4
          replace q40 : ρ 40 = .bool true := q40
          refine ⟨by simp [Rg.wants, q40], ?_⟩
          have c0_ : W.cell? ⟨g + 1, 0, none⟩ = some (.int .u64 kl_.hard.term) := ((hM.ext hR).cell 0).trans rfl
          have c1_ : W.cell? ⟨g + 1, 1, none⟩ = some (.int .i64 kl_.hard.vote) := ((hM.ext hR).cell 1).trans rfl
          have c2_ : W.cell? ⟨g + 1, 2, none⟩ = some (.int .u64 kl_.snap.index) := ((hM.ext hR).cell 2).trans rfl
          have c3_ : W.cell? ⟨g + 1, 3, none⟩ = some (.int .u64 kl_.snap.term) := ((hM.ext hR).cell 3).trans rfl
          have c4_ : W.cell? ⟨g + 1, 4, none⟩ = some (.slice As kl_.snap.state.length cs) := ((hM.ext hR).cell 4).trans rfl
          have c5_ : W.cell? ⟨g + 1, 5, none⟩ = some (.slice Ae kl_.ents.length ce) := ((hM.ext hR).cell 5).trans rfl
          exact Rg.run_ok (v := .agg #[.int .u64 kl_.hard.term, .int .i64 kl_.hard.vote, .int .u64 kl_.snap.index, .int .u64 kl_.snap.term, .slice As kl_.snap.state.length cs, .slice Ae kl_.ents.length ce]) (by simp [execOp, Rg.ev, go_sem, q4, c0_, c1_, c2_, c3_, c4_, c5_]) ⟨rfl, hR, Ext.rfl' _⟩
        refine ⟨Rg.at_run [43, 40] rfl ?_, ?_⟩
        · intro ρ W hR ⟨q43, q40, _⟩
          replace q43 : ρ 43 = .agg #[.int .u64 kl_.hard.term, .int .i64 kl_.hard.vote, .int .u64 kl_.snap.index, .int .u64 kl_.snap.term, .slice As kl_.snap.state.length cs, .slice Ae kl_.ents.length ce] := q43
          replace q40 : ρ 40 = .bool true := q40
          refine ⟨by simp [Rg.wants, q40], ?_⟩
          refine Rg.enter_fn (args := #[.agg #[.int .u64 kl_.hard.term, .int .i64 kl_.hard.vote, .int .u64 kl_.snap.index, .int .u64 kl_.snap.term, .slice As kl_.snap.state.length cs, .slice Ae kl_.ents.length ce]]) rfl (by simp only [List.map_toArray, List.map_cons, List.map_nil, Rg.ev, q43]) (by kernel_rfl) ?_
          refine (rrecords_b noneAt kl_ (.slice As kl_.snap.state.length cs) (.slice Ae kl_.ents.length ce) l.length W (fun _ h => h.elim) hwd hsm2 (.of (hMs.ext hR)) (hMe.ext hR) (by omega)).mono ?_
          rw [HKR.out]
          rintro e_ w9 ⟨m_, A_, c_, hm_, rfl, h1_, hxx⟩
          obtain rfl := hm_.out
          exact ⟨_, rfl, ⟨_, _, rfl, h1_.sl⟩, hR.trans' hxx, hxx⟩
        refine ⟨Rg.at_run [42, 44, 40] rfl ?_, ?_⟩
        · intro ρ W hR ⟨q42, q44, q40, _⟩
          replace q42 : (fun v W => ∃ A c, v = .slice A kl.length c ∧ Enc.Sl reE W noneAt (.slice A kl.length c) kl) (ρ 42) W := q42
          replace q44 : (fun v W => ∃ A c, v = .slice A kl.length c ∧ Enc.Sl reE W noneAt (.slice A kl.length c) kl) (ρ 44) W := q44
          replace q40 : ρ 40 = .bool true := q40
          refine ⟨by simp [Rg.wants, q40], ?_⟩
          obtain ⟨A9, c9, hv9, hl9⟩ := q42
          obtain ⟨A8, c8, hv8, hl8⟩ := q44
          refine Rg.enter_fn (args := #[.slice A9 kl.length c9, .slice A8 kl.length c8]) rfl (by simp only [List.map_toArray, List.map_cons, List.map_nil, Rg.ev, hv9, hv8]) (by kernel_rfl) ?_
          refine (sameRecords_b (.slice A9 kl.length c9) (.slice A8 kl.length c8) kl W hl9 hl8).mono ?_
          rintro e_ w9 ⟨rfl, hxx⟩
          exact ⟨_, rfl, rfl, hR.trans' hxx, hxx⟩
        refine ⟨Rg.at_run [40, 45] rfl ?_, ?_⟩
        · intro ρ W hR ⟨q40, q45, _⟩
          replace q40 : ρ 40 = .bool true := q40
          replace q45 : ρ 45 = .bool true := q45
          refine ⟨rfl, ?_⟩
          exact Rg.run_ok (v := .bool true) (by simp [execOp, Rg.ev, go_sem, q40, q45]) ⟨rfl, hR, Ext.rfl' _⟩
        refine ⟨Rg.at_run [46] rfl ?_, ?_⟩
        · intro ρ W hR ⟨q46, _⟩
          replace q46 : ρ 46 = .bool true := q46
          refine ⟨rfl, ?_⟩
          exact Rg.run_ok (v := .bool true) (by simp [execOp, Rg.ev, go_sem, q46]) ⟨rfl, hR, Ext.rfl' _⟩
        trivial
      case en =>
        intro tm W hR hsz hk
        rw [Rg.fin_eq (ds := [35, 36, 37, 38, 39, 40, 41, 42, 43, 44, 45, 46, 2]) rfl rfl rfl hsz hk]
        have k2 : tm.getD 2 undef = .bool true := hk 2
        have k35 : tm.getD 35 undef = .agg #[.int .u64 0, .int .i64 0, .int .u64 0, .int .u64 0, .slice none 0 0, .slice none 0 0] := hk 35
        have k36 : tm.getD 36 undef = .slice Ax l.length cx := hk 36
        have k37 : (fun v W => ∃ A c B d, v = .agg #[.int .u64 kl_.hard.term, .int .i64 kl_.hard.vote, .int .u64 kl_.snap.index, .int .u64 kl_.snap.term, .slice A kl_.snap.state.length c, .slice B kl_.ents.length d] ∧ Bs W (.slice A kl_.snap.state.length c) kl_.snap.state ∧ Enc.Sl enE W noneAt (.slice B kl_.ents.length d) kl_.ents) (tm.getD 37 undef) W := hk 37
        have k38 : tm.getD 38 undef = .agg #[.int .u64 kl_.hard.term, .int .i64 kl_.hard.vote, .int .u64 kl_.snap.index, .int .u64 kl_.snap.term, .slice As kl_.snap.state.length cs, .slice Ae kl_.ents.length ce] := hk 38
        have k39 : tm.getD 39 undef = .bool true := hk 39
        have k40 : tm.getD 40 undef = .bool true := hk 40
        have k41 : tm.getD 41 undef = .agg #[.int .u64 kl_.hard.term, .int .i64 kl_.hard.vote, .int .u64 kl_.snap.index, .int .u64 kl_.snap.term, .slice As kl_.snap.state.length cs, .slice Ae kl_.ents.length ce] := hk 41
        have k42 : (fun v W => ∃ A c, v = .slice A kl.length c ∧ Enc.Sl reE W noneAt (.slice A kl.length c) kl) (tm.getD 42 undef) W := hk 42
        have k43 : tm.getD 43 undef = .agg #[.int .u64 kl_.hard.term, .int .i64 kl_.hard.vote, .int .u64 kl_.snap.index, .int .u64 kl_.snap.term, .slice As kl_.snap.state.length cs, .slice Ae kl_.ents.length ce] := hk 43
        have k44 : (fun v W => ∃ A c, v = .slice A kl.length c ∧ Enc.Sl reE W noneAt (.slice A kl.length c) kl) (tm.getD 44 undef) W := hk 44
        have k45 : tm.getD 45 undef = .bool true := hk 45
        have k46 : tm.getD 46 undef = .bool true := hk 46
        clear hk hsz
        simp only [Rg.putAll, List.setIfInBounds_toArray, List.set_cons_zero, List.set_cons_succ, k2, k35, k36, k38, k39, k40, k41, k43, k45, k46]
        clear k2
        clear k35
        clear k36
        generalize tm.getD 37 undef = u37 at *
        clear k38
        clear k39
        clear k40
        clear k41
        generalize tm.getD 42 undef = u42 at *
        clear k43
        generalize tm.getD 44 undef = u44 at *
        clear k45
        clear k46
        refine Rg.nil_list ?_

        clear k37 k42 k44
        go_wp2_with fail
        go_ret
        exact ⟨rfl, hx.trans' hR⟩
end Go.Proofs.Ytboncnlcomeahaa

/- The statement 'StoreFoldsSaid': whatever is handed in, the law answers true, and what was handed in is as it was. -/
namespace Go.Proofs.Ytboncnlcomeahaa.storeFolds
set_option linter.unusedVariables false
set_option linter.unusedSimpArgs false
set_option linter.unnecessarySimpa false
set_option maxRecDepth 100000
open Go.ChangeShapes Go.WideShapes Go.ChangeAt Go.RowKit
open Go.ChangeMaps (open_string shut_string)

set_option maxRecDepth 100000 in
set_option maxHeartbeats 2000000 in
theorem lifted (os : Os) (started : os.Started) (H : Type) (enc : TypeId × Value → H) :
    ReturnsInHanded {} Try.checked os 3 .any (Rows.storeFoldsSpec.pre6 enc Try.prog Try.f3 Rows.storeFoldsRow.domain false) (Rows.storeFoldsSpec.post enc Try.prog Try.f3 false true false false) := by
  refine returnsInHanded_of_change (C := Try.checked) own started (by kernel_rfl) Try.func3
    (ChangeSpec.witness6 (enc := enc) (C := Try.checked) false ⟨#[], #[.slice none 0 0], []⟩ 8 (by kernel_rfl) (by kernel_rfl) (by kernel_rfl) (by kernel_rfl)) ?_
  intro W base args ds gs before hval0 hW hcnd _
  have hval : ∀ (j : Nat) t v, Try.f3.params[j]? = some t → args[j]? = some v → Value.okWide Try.prog W .any base t v := hval0
  have hW' := hW
  obtain ⟨p, q, hA0, hV, rfl, hfz, hnd⟩ := hW
  have hA : DataW.TrodAll enc Try.prog W 0 (fun _ => true) true Try.f3.params.toList args.toList ds p := hA0
  rw [Try.params3] at hA hval
  obtain ⟨v0, vs0, d0, ds0, p0, q0, hargs, rfl, rfl, h0, r0⟩ := trodAll_cons hA
  obtain ⟨rfl, rfl, rfl⟩ := trodAll_nil r0
  obtain rfl : args = #[v0] := by cases args; simp_all
  obtain ⟨rfl, rfl⟩ := trodVars_none hV
  have k0 := h0
  have lt0 : ∀ x ∈ p0, x.block < W.heap.size := by obtain ⟨m, hm⟩ := k0; exact DataW.trod_lt m _ _ _ hm
  obtain ⟨a0, len0, cap0, rfl⟩ := okWide_slice Try.underlying22 (hval 0 22 v0 rfl rfl)
  obtain ⟨b0, hb0⟩ : ∃ b, Enc.Sl reE W noneAt (.slice a0 len0 cap0) b := by
    obtain ⟨fuel, hf⟩ := h0
    obtain ⟨b, v, hv, hs⟩ := (Enc.opens_slice Try.underlying22 (by kernel_rfl) (by decide) reE_opens) _ enc W fuel _ _ hf
    obtain rfl : Value.slice a0 len0 cap0 = v := by simpa [Value.cells] using hv
    exact ⟨b, hs⟩
  clear hA0 hval0
  refine (storeFolds_walk _ b0 W hb0).mono fun e W' ⟨he, bel⟩ => ?_
  subst he
  exact ⟨_, rfl, _, _, _, [], _, [], hW', trodAll_mk1 (shut_bool Try.underlying4 _), (trodAll_cons_mk (Below.trod laidOut (by kernel_rfl) (of_decide_eq_true (by kernel_rfl)) k0 bel lt0) trodAll_mk0), rfl, bel.frame _, fun h => by cases h⟩

theorem over : Rows.storeFoldsRow.holds Try.pinned (OpenSpec.ofChange Rows.storeFoldsSpec) :=
  OpenClaim.holds_of_wide 3 Try.f3 rfl rfl rfl rfl rfl rfl rfl ⟨rfl, rfl, rfl, rfl, rfl⟩ rfl rfl rfl rfl rfl (by kernel_rfl) Try.func3 (by kernel_rfl)
    (of_decide_eq_true (by kernel_rfl)) (by unfold Func.isWrapper; first | (rw [if_pos (by decide +kernel)]; kernel_rfl) | (rw [if_neg (by decide +kernel)]; exact ⟨rfl, rfl⟩))
    (fun os started H enc _ => lifted os started H enc)

/-- THE STATEMENT -/
theorem proved : Rows.StoreFoldsSaid := over
#print axioms proved
end Go.Proofs.Ytboncnlcomeahaa.storeFolds

