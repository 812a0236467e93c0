import Derived.Test.YtboncnlcomeahaaPk11
import Derived.ArgAppend
import Derived.Test.YtboncnlcomeahaaPk21
import Derived.Test.YtboncnlcomeahaaPk16
import Derived.RegionTactic
import Derived.Deep.DeepCutAuto
import Derived.Deep.CutBlock
import Derived.Test.YtboncnlcomeahaaPk32
import Derived.Test.YtboncnlcomeahaaPk27
import Derived.Test.YtboncnlcomeahaaPk31
import Derived.Test.YtboncnlcomeahaaPk33
import Derived.Test.YtboncnlcomeahaaPk7
/- Append onto an empty literal: what was there stays as it was. -/
namespace Go.Proofs.Ytboncnlcomeahaa
set_option linter.unusedVariables false
set_option linter.unusedSimpArgs false
set_option linter.unnecessarySimpa false
set_option maxRecDepth 100000
open Go.RowKit
section
variable {α : Type} {T : TypeId} {E : Enc α} {w0 w w' : World} {X : Avoid} {m : List α}
theorem run_own0 {z : Value} {bytes : Nat} (ei : Elt T E z bytes) (t ty : TypeId) (ht : Try.prog.underlying t = some (.slice T)) {g : Nat} (h : Own T E w0 w X (.slice (some ⟨g, 0, none⟩) 0 0) []) (hx0 : Ext w0 w)
    {y : Value} (hy : Enc.Sl E w (fun k => X k ∨ k = g) y m) (hX : ¬ X w.heap.size) (hlen : m.length * bytes ≤ 140737488355328) (hl2 : m.length ≤ 140737488355328) :
    ∃ A c w', (Builtin.append_ #[t, t] ty #[.slice (some ⟨g, 0, none⟩) 0 0, y]).run Try.prog w = .ok (.slice A m.length c) w' ∧ Own T E w0 w' X (.slice A m.length c) m ∧ Ext w w' := by
  obtain ⟨v', w', hrun, hown, -, -, -⟩ := run_own ei t ty ht h hx0 (hy.mono fun k _ hk => hk.elim .inl fun h => .inr (Option.some.inj h).symm) hX (by simpa using hlen) (by simpa using hl2)
  rw [List.nil_append] at hown
  obtain ⟨A', c', rfl, -, -⟩ := hown.form
  refine ⟨A', c', w', hrun, hown, ?_⟩
  obtain ⟨A, c, css, rfl, k1, k2, k3, k4, k5⟩ := hy
  obtain ⟨i0, hi, hz0, hz1, hz2⟩ := info_parts ei.info
  rcases Nat.eq_zero_or_pos m.length with h0 | h0
  · rw [h0] at hrun
    have hr : (Builtin.append_ #[t, t] ty #[.slice (some ⟨g, 0, none⟩) 0 0, .slice A 0 c]).run Try.prog w = .ok (.slice (some ⟨g, 0, none⟩) 0 0) w := by
      cases A <;> simp [Builtin.append_, run_underlying ht, sizeOf, typeInfo, hi, Builtin.lenOf, Builtin.firstCells, loadCells, loadCellsFrom, storeCells]
    rw [hr] at hrun
    injection hrun with _ h2
    rw [← h2]
    exact Ext.rfl' _
  · obtain ⟨ad, rfl, _, hc⟩ := k3.2 h0
    have hr := run_append_grow (P := Try.prog) w t ty T i0 z ht hi hz0 ⟨g, 0, none⟩ 0 0 [] (by simp) (by simp) ad m.length c css.flatten (by rw [k3.1, hz1]) hc (by omega) (by omega) (by
      have : Builtin.nextslicecap (0 + m.length) 0 = m.length := by unfold Builtin.nextslicecap; rw [if_pos (by omega)]; omega
      rw [this, hz2]; omega)
    rw [hr] at hrun
    injection hrun with _ h2
    rw [← h2]
    exact ((Ext.rfl' w).drew').alloc' _
/-- a slice whose elements lie apart; its own block may lie anywhere -/
def SlR (E : Enc α) (w : World) (X : Avoid) (v : Value) (l : List α) : Prop :=
  ∃ A c css, v = .slice A l.length c ∧ l.length ≤ c ∧ c ≤ maxLen ∧ Reads w w.heap.size E.size A l.length css.flatten ∧ Enc.Each E w X css l
theorem SlR.ext {v : Value} {l : List α} (h : SlR E w X v l) (hx : Ext w w') : SlR E w' X v l := by
  obtain ⟨A, c, css, h1, h2, h3, h4, h5⟩ := h
  exact ⟨A, c, css, h1, h2, h3, h4.ext hx, h5.ext hx⟩
theorem SlR.mono {Y : Avoid} {v : Value} {l : List α} (h : SlR E w X v l) (hs : ∀ k, k < w.heap.size → Y k → X k) : SlR E w Y v l := by
  obtain ⟨A, c, css, h1, h2, h3, h4, h5⟩ := h
  exact ⟨A, c, css, h1, h2, h3, h4, h5.mono hs⟩
/-- one element in a block of its own -/
theorem SlR.one (T : TypeId) {cs : List Value} {a : α} (h : E.rep w X cs a) : SlR E (w.alloc (.cells cs.toArray T)) X (.slice (some ⟨w.heap.size, 0, none⟩) 1 1) [a] := by
  refine ⟨_, 1, [cs], rfl, Nat.le_refl _, by simp [maxLen], ?_, Enc.Each.single (E.ext h ((Ext.rfl' w).alloc' _))⟩
  refine ⟨by simp [E.len h], fun _ => ⟨_, rfl, by simp, fun j u hu => ?_⟩⟩
  have hadd : (⟨w.heap.size, 0, none⟩ : Addr).add j = ⟨w.heap.size, j, none⟩ := by unfold Addr.add; split <;> simp_all
  rw [hadd, cell_of_row _ _ _ _ _ _ (heap_alloc_new w _)]
  simpa using hu
variable {v : Value} {l : List α}
theorem run_ownR {z : Value} {bytes : Nat} (ei : Elt T E z bytes) (t ty : TypeId) (ht : Try.prog.underlying t = some (.slice T)) (h : Own T E w0 w X v l) (hx0 : Ext w0 w)
    {y : Value} (hy : SlR E w (fun k => X k ∨ v.ownBlock = some k) y m) (hX : ¬ X w.heap.size) (hlen : (l.length + m.length) * bytes ≤ 140737488355328) (hl2 : l.length + m.length ≤ 140737488355328) :
    ∃ v' w', (Builtin.append_ #[t, t] ty #[v, y]).run Try.prog w = .ok v' w' ∧ Own T E w0 w' X v' (l ++ m) ∧ Ext w0 w' ∧ Chg v.ownBlock.toList w w' ∧ (v'.ownBlock = v.ownBlock ∨ v'.ownBlock = some w.heap.size) := by
  obtain ⟨css, h1, h2, h3⟩ := h
  obtain ⟨A, c, cs2, rfl, k1, k2, k3, k5⟩ := hy
  obtain ⟨i0, hi, hz0, hz1, hz2⟩ := info_parts ei.info
  obtain ⟨v', w', hrun, hown, hg, hb⟩ := run_append_any (P := Try.prog) w w0.heap.size t ty T i0 z E.size bytes ht hi hz0 hz1 hz2 ei.zs ei.pos v l.length css.flatten h1 w.heap.size A m.length c cs2.flatten k3 k5.one (by simp [maxLen]; omega) hlen hx0.size
  have hc := hg.chg'
  refine ⟨v', w', hrun, ⟨css ++ cs2, by rw [List.length_append, List.flatten_append]; exact hown, ?_, ?_⟩, hx0.then_ hc (fun i hi => by simp at hi; exact (h1.lt i hi).1), hc, hb⟩
  · have j1 := h2.mono (Y := fun k => (X k ∨ v'.ownBlock = some k) ∨ v.ownBlock = some k) fun k hk hy => by
      rcases hy with (hy | hy) | hy
      · exact .inl hy
      · rcases hb with e | e
        · exact .inr (e.symm.trans hy)
        · rw [e] at hy; have := Option.some.inj hy; omega
      · exact .inr hy
    have j2 := k5.mono (Y := fun k => (X k ∨ v'.ownBlock = some k) ∨ v.ownBlock = some k) fun k hk hy => by
      rcases hy with (hy | hy) | hy
      · exact .inl hy
      · rcases hb with e | e
        · exact .inr (e.symm.trans hy)
        · rw [e] at hy; have := Option.some.inj hy; omega
      · exact .inr hy
    have j3 := (j1.app j2).chg hc fun k hk _ => .inr (by simpa using hk)
    exact j3.mono fun k _ hk => .inl hk
  · intro k hk hx
    rcases hb with e | e
    · exact h3 k (e.symm.trans hk) hx
    · rw [e] at hk; have := Option.some.inj hk; subst this; exact hX hx
theorem wpList_ownR {ops : Array Oper} {rest : List Oper} {o : Oper} {a : Act} {Q : Exit → Act → World → Prop} {z : Value} {bytes : Nat} (ei : Elt T E z bytes) (t : TypeId) (ht : Try.prog.underlying t = some (.slice T)) (hgd : o.guard = none) (s x : Operand)
    (ho : o.op = .call { callee := .builtin .append, args := #[s, x], argTypes := #[t, t] }) (h : Own T E w0 w X v l) (hs : a.eval s = v) (hx0 : Ext w0 w)
    {y : Value} (hx : a.eval x = y) (hy : SlR E w (fun k => X k ∨ v.ownBlock = some k) y m) (hX : ¬ X w.heap.size) (hlen : (l.length + m.length) * bytes ≤ 140737488355328) (hl2 : l.length + m.length ≤ 140737488355328)
    (hK : ∀ (k : List α) (A : Option Addr) (c : Nat) (w' : World), Hid (k = l ++ m) → Own T E w0 w' X (.slice A k.length c) k → Ext w0 w' → Chg v.ownBlock.toList w w' → wpList Try.prog ops Q rest (a.put o.dst (.slice A k.length c)) w') : wpList Try.prog ops Q (o :: rest) a w :=
  wpList_plain hgd fun _ hK' => by
    obtain ⟨v', w', hrun, h2, h3, h4, h5⟩ := run_ownR ei t o.type ht h hx0 hy hX hlen hl2
    obtain ⟨A, c, rfl, _, _⟩ := h2.form
    unfold Oper.wp execOp
    simp only [ho, resolve, invoke, builtin, Sem.run_bind, Sem.run_pure, Result.andThen_ok, List.map_toArray, List.map_cons, List.map_nil, hs, hx, hrun]
    exact hK' _ _ (hK (l ++ m) A c w' (hide rfl) h2 h3 h4)
end
end Go.Proofs.Ytboncnlcomeahaa

/- append(append([]T{}, k...), e) in one statement that draws its order: what each step leaves, and what lasts. -/
namespace Go.Proofs.Ytboncnlcomeahaa
set_option linter.unusedVariables false
set_option linter.unusedSimpArgs false
set_option linter.unnecessarySimpa false
set_option maxRecDepth 100000
open Go.RowKit
section
variable (n1 g : Nat) (T : TypeId) (xs new : List Value)
/-- all but block g is as it was; a row that was made since may have been written behind its first cells -/
def Gr (W W' : World) : Prop := W.heap.size ≤ W'.heap.size ∧ ∀ k, k < W.heap.size → k ≠ g → W'.heap[k]? = W.heap[k]? ∨
  (n1 ≤ k ∧ ∃ cs cs' : Array Value, W.heap[k]? = some (.cells cs T (0, 0)) ∧ W'.heap[k]? = some (.cells cs' T (0, 0)) ∧ cs.size ≠ new.length ∧ cs'.size = cs.size ∧ cs'.toList.take (xs.length + new.length) = xs ++ new)
/-- an empty literal -/
def Row0 (v : Value) (W : World) : Prop := ∃ b, v = .slice (some ⟨b, 0, none⟩) 0 0 ∧ n1 ≤ b ∧ b ≠ g ∧ Blk W b T #[]
/-- a literal of one element -/
def Lit1 (v : Value) (W : World) : Prop := ∃ b, v = .slice (some ⟨b, 0, none⟩) 1 1 ∧ n1 ≤ b ∧ b ≠ g ∧ Blk W b T new.toArray
/-- a copy, of n elements -/
def Row1 (n : Nat) (v : Value) (W : World) : Prop := ∃ b cap cur, v = .slice (some ⟨b, 0, none⟩) n cap ∧ n1 ≤ b ∧ b ≠ g ∧ Blk W b T cur ∧ n ≤ cap ∧ cap ≤ maxLen ∧ cur.size = cap * new.length ∧ cur.toList.take xs.length = xs ∧ (n = 0 → cap = 0)
/-- the same with one more behind -/
def Row2 (n : Nat) (v : Value) (W : World) : Prop := ∃ b cap cur, v = .slice (some ⟨b, 0, none⟩) (n + 1) cap ∧ n1 ≤ b ∧ b ≠ g ∧ Blk W b T cur ∧ n + 1 ≤ cap ∧ cap ≤ maxLen ∧ cur.size = cap * new.length ∧ cur.toList.take (xs.length + new.length) = xs ++ new
end
section
variable {n1 g : Nat} {T : TypeId} {xs new : List Value} {W W' : World} {v : Value}
theorem Gr.of_chg (h : Chg [g] W W') : Gr n1 g T xs new W W' := ⟨h.size, fun k hk hn => .inl (h.block k hk (by simpa using hn))⟩
theorem Gr.of_ext (h : Ext W W') : Gr n1 g T xs new W W' := .of_chg (h.chg _)
theorem Gr.refl (W : World) : Gr n1 g T xs new W W := .of_ext (Ext.rfl' _)
theorem Gr.blk {b : Nat} {cur : Array Value} (h : Gr n1 g T xs new W W') (hb : Blk W b T cur) (hne : b ≠ g) : Blk W' b T cur ∨ ∃ cs', Blk W' b T cs' ∧ cur.size ≠ new.length ∧ cs'.size = cur.size ∧ cs'.toList.take (xs.length + new.length) = xs ++ new := by
  rcases h.2 b hb.lt hne with h1 | ⟨-, cs, cs', h1, h2, h3⟩
  · exact .inl (h1.trans hb)
  · unfold Blk at hb
    rw [hb] at h1
    simp only [Option.some.injEq, Obj.cells.injEq, and_true, true_and] at h1
    subst h1
    exact .inr ⟨cs', h2, h3⟩
theorem Row0.last (hp : 0 < new.length) (h : Row0 n1 g T v W) (hG : Gr n1 g T xs new W W') : Row0 n1 g T v W' := by
  obtain ⟨b, rfl, h1, h2, h3⟩ := h
  rcases hG.blk h3 h2 with h4 | ⟨cs', -, -, h5, h6⟩
  · exact ⟨b, rfl, h1, h2, h4⟩
  · exfalso
    have : cs'.toList = [] := List.eq_nil_of_length_eq_zero (by simpa using h5)
    rw [this] at h6
    have h7 := congrArg List.length h6
    simp at h7
    omega
theorem Lit1.last (h : Lit1 n1 g T new v W) (hG : Gr n1 g T xs new W W') : Lit1 n1 g T new v W' := by
  obtain ⟨b, rfl, h1, h2, h3⟩ := h
  rcases hG.blk h3 h2 with h4 | ⟨cs', -, h5, -⟩
  · exact ⟨b, rfl, h1, h2, h4⟩
  · simp at h5
theorem Row1.last {n : Nat} (h : Row1 n1 g T xs new n v W) (hG : Gr n1 g T xs new W W') : Row1 n1 g T xs new n v W' := by
  obtain ⟨b, cap, cur, rfl, h1, h2, h3, h4, h5, h6, h7, h8⟩ := h
  rcases hG.blk h3 h2 with h9 | ⟨cs', h9, -, h10, h11⟩
  · exact ⟨b, cap, cur, rfl, h1, h2, h9, h4, h5, h6, h7, h8⟩
  · refine ⟨b, cap, cs', rfl, h1, h2, h9, h4, h5, h10.trans h6, ?_, h8⟩
    have := congrArg (List.take xs.length) h11
    rw [List.take_take, Nat.min_eq_left (by omega), List.take_left] at this
    exact this
theorem Row2.last {n : Nat} (h : Row2 n1 g T xs new n v W) (hG : Gr n1 g T xs new W W') : Row2 n1 g T xs new n v W' := by
  obtain ⟨b, cap, cur, rfl, h1, h2, h3, h4, h5, h6, h7⟩ := h
  rcases hG.blk h3 h2 with h9 | ⟨cs', h9, -, h10, h11⟩
  · exact ⟨b, cap, cur, rfl, h1, h2, h9, h4, h5, h6, h7⟩
  · exact ⟨b, cap, cs', rfl, h1, h2, h9, h4, h5, h10.trans h6, h11⟩
theorem row0_new (T : TypeId) (hn : n1 ≤ W.heap.size) (hg : g < n1) : Row0 n1 g T (.slice (some ⟨W.heap.size, 0, none⟩) 0 0) (W.alloc (.cells #[] T)) := ⟨_, rfl, hn, by omega, Blk.new W T #[]⟩
theorem lit1_new (T : TypeId) (hn : n1 ≤ W.heap.size) (hg : g < n1) : Lit1 n1 g T new (.slice (some ⟨W.heap.size, 0, none⟩) 1 1) (W.alloc (.cells new.toArray T)) := ⟨_, rfl, hn, by omega, Blk.new W T _⟩
theorem take_allV {l m : List Value} {n : Nat} (h : l.take n = m) (hl : m.length = n) : ∀ (j : Nat) (u : Value), m[j]? = some u → l[j]? = some u := by
  intro j u hu
  have hj := (List.getElem?_eq_some_iff.1 hu).1
  rw [← h, List.getElem?_take, if_pos (by omega)] at hu
  exact hu
variable {z : Value} {bytes : Nat}
/-- the first append -/
theorem run_row1 {P : Program} (t ty : TypeId) (i : TypeInfo) (ht : P.underlying t = some (.slice T)) (hi : P.info? T = some i) (hz : i.zero = some z) (hsize : i.size = new.length) (hby : i.bytes = bytes) (hzs : z.cells.size = new.length) (hp : 0 < new.length)
    (hn : n1 ≤ W.heap.size) (hg : g < n1) (h : Row0 n1 g T v W) {B : Nat} {A : Option Addr} {n c : Nat} (hr : Reads W B new.length A n xs) (h1 : ∀ u ∈ xs, u.oneCell' = true) (h63 : n ≤ 100000) (hbytes : bytes ≤ 1000) :
    ∃ v' w', (Builtin.append_ #[t, t] ty #[v, .slice A n c]).run P W = .ok v' w' ∧ Row1 n1 g T xs new n v' w' ∧ Ext W w' := by
  obtain ⟨b, rfl, k1, k2, k3⟩ := h
  rcases Nat.eq_zero_or_pos n with h0 | h0
  · subst h0
    have hxs : xs = [] := List.eq_nil_of_length_eq_zero (by simpa using hr.1)
    subst hxs
    have hrun : (Builtin.append_ #[t, t] ty #[.slice (some ⟨b, 0, none⟩) 0 0, .slice A 0 c]).run P W = .ok (.slice (some ⟨b, 0, none⟩) 0 0) W := by
      cases A <;> simp [Builtin.append_, run_underlying ht, sizeOf, typeInfo, hi, Builtin.lenOf, Builtin.firstCells, loadCells, loadCellsFrom, storeCells]
    exact ⟨_, _, hrun, ⟨b, 0, #[], rfl, k1, k2, k3, Nat.le_refl _, by simp [maxLen], by simp, by simp, fun _ => rfl⟩, Ext.rfl' _⟩
  · obtain ⟨ad, rfl, hb, hc⟩ := hr.2 h0
    have hbb : (0 + n) * bytes ≤ 140737488355328 := by rw [Nat.zero_add]; exact Nat.le_trans (Nat.mul_le_mul h63 hbytes) (by decide)
    obtain ⟨v', w', hrun, hown, hgr⟩ := run_append_arg_grows (P := P) W t ty T i z new.length bytes ht hi hz hsize hby hzs hp ⟨b, 0, none⟩ 0 0 [] (by simp) (by simp) ad n c xs hr.1 hc (by omega) (by simp [maxLen]; omega) hbb
    have hgr' : W.grownBy w' none := hgr
    have hxx : Ext W w' := ⟨hgr.os, hgr.tape, hgr.output, hgr.size, fun k hk => hgr.block k hk (by simp)⟩
    rw [List.nil_append, Nat.zero_add] at hown
    obtain ⟨hl, ⟨-, he⟩ | ⟨b', cap, cur, rfl, e1, e2, e3, e4, e5, e6⟩⟩ := hown
    · omega
    · exact ⟨_, _, hrun, ⟨b', cap, cur, rfl, by omega, by omega, e2, e3, e4, e5, by rw [hl]; exact e6, fun h => by omega⟩, hxx⟩
/-- the second -/
theorem run_row2 {P : Program} (t ty : TypeId) (i : TypeInfo) (ht : P.underlying t = some (.slice T)) (hi : P.info? T = some i) (hz : i.zero = some z) (hsize : i.size = new.length) (hby : i.bytes = bytes) (hzs : z.cells.size = new.length) (hp : 0 < new.length)
    (hn : n1 ≤ W.heap.size) (hg : g < n1) {n : Nat} (hxs : xs.length = n * new.length) (h1 : ∀ u ∈ new, u.oneCell' = true) (h63 : n ≤ 100000) (hbytes : bytes ≤ 1000) (h : Row1 n1 g T xs new n v W) {y : Value} (hy : Lit1 n1 g T new y W) :
    ∃ v' w' S, (Builtin.append_ #[t, t] ty #[v, y]).run P W = .ok v' w' ∧ Row2 n1 g T xs new n v' w' ∧ Gr n1 g T xs new W w' ∧ Chg S W w' ∧ ∀ k, k ∈ S → n1 ≤ k := by
  obtain ⟨b, cap, cur, rfl, k1, k2, k3, k4, k5, k6, k7, k8⟩ := h
  obtain ⟨b2, rfl, m1, m2, m3⟩ := hy
  have hbb : (n + 1) * bytes ≤ 140737488355328 := Nat.le_trans (Nat.mul_le_mul (Nat.succ_le_succ h63) hbytes) (by decide)
  have hadd : ∀ (k j : Nat), (⟨k, 0, none⟩ : Addr).add j = ⟨k, j, none⟩ := fun k j => by unfold Addr.add; split <;> simp_all
  have hnews : ∀ j u, new[j]? = some u → W.cell? ((⟨b2, 0, none⟩ : Addr).add j) = some u := fun j u hu => by
    rw [hadd, m3.cell]; simpa using hu
  have holds : ∀ j u, xs[j]? = some u → W.cell? ((⟨b, 0, none⟩ : Addr).add j) = some u := fun j u hu => by
    rw [hadd, k3.cell, ← Array.getElem?_toList]; exact take_allV k7 rfl j u hu
  by_cases hroom : n + 1 ≤ cap
  · have hcs : cur.size = cap * new.length := k6
    have hle : (n + 1) * new.length ≤ cap * new.length := Nat.mul_le_mul_right _ hroom
    rw [Nat.succ_mul] at hle
    have hrun := run_append_room_cells (P := P) W t ty T i ht hi b 0 n cap ⟨b2, 0, none⟩ 1 1 new (by rw [hsize]; simp) hnews h1 hroom (fun j hj => by
      rw [hsize, k3.cell]; simp; omega) (fun j hj => k3.frozen _)
    rw [hsize, Nat.zero_add] at hrun
    have key : ∀ (l : List Value) (o : Nat) (w : World) (cs : Array Value), Blk w b T cs → o + l.length ≤ cs.size → ∃ cs', Blk (w.setCells b o l) b T cs' ∧ cs'.size = cs.size ∧ cs'.toList.take (o + l.length) = cs.toList.take o ++ l ∧ Chg [b] w (w.setCells b o l) := by
      intro l
      induction l with
      | nil => intro o w cs hB _; exact ⟨cs, hB, rfl, by simp, Chg.refl _ _⟩
      | cons x l ih =>
        intro o w cs hB hs
        simp only [List.length_cons] at hs
        obtain ⟨cs', i1, i2, i3, i4⟩ := ih (o + 1) (w.setCell ⟨b, o, none⟩ x) (cs.setIfInBounds o x) (hB.set_ o x) (by simp; omega)
        refine ⟨cs', i1, i2.trans (by simp), ?_, ((Chg.refl [b] w).set (p := ⟨b, o, none⟩) (by simp) x).trans i4⟩
        rw [List.length_cons, show o + (l.length + 1) = o + 1 + l.length by omega, i3]
        simp only [Array.toList_setIfInBounds]
        rw [List.take_succ_eq_append_getElem (by simp; omega), List.take_set_of_le (Nat.le_refl _), List.getElem_set_self]
        simp
    obtain ⟨cs', i1, i2, i3, i4⟩ := key new (n * new.length) W cur k3 (by omega)
    have hn0 : 0 < n := by
      rcases Nat.eq_zero_or_pos n with h0 | h0
      · have := k8 h0; omega
      · exact h0
    have h5 : cs'.toList.take (xs.length + new.length) = xs ++ new := by rw [hxs, i3, ← hxs, k7]
    refine ⟨_, _, [b], hrun, ⟨b, cap, cs', rfl, k1, k2, i1, hroom, k5, i2.trans k6, h5⟩, ⟨i4.size, fun k hk hne => ?_⟩, i4, fun k hk => by rw [List.mem_singleton.1 hk]; exact k1⟩
    by_cases hkb : k = b
    · subst hkb
      refine .inr ⟨k1, cur, cs', k3, i1, ?_, i2, h5⟩
      have : 2 * new.length ≤ cap * new.length := Nat.mul_le_mul_right _ (by omega)
      omega
    · exact .inl (i4.block k hk (by simpa using hkb))
  · obtain ⟨v', w', hrun, hown, hgr⟩ := run_append_arg_grows (P := P) W t ty T i z new.length bytes ht hi hz hsize hby hzs hp ⟨b, 0, none⟩ n cap xs hxs holds ⟨b2, 0, none⟩ 1 1 new (by simp) hnews (by omega) (by simp [maxLen]; omega) hbb
    have hxx : Ext W w' := ⟨hgr.os, hgr.tape, hgr.output, hgr.size, fun k hk => hgr.block k hk (by simp)⟩
    obtain ⟨hl, ⟨-, he⟩ | ⟨b', cap', cur', rfl, e1, e2, e3, e4, e5, e6⟩⟩ := hown
    · omega
    · rw [List.length_append] at hl
      exact ⟨_, _, [], hrun, ⟨b', cap', cur', rfl, by omega, by omega, e2, e3, e4, e5, by rw [hl]; exact e6⟩, .of_ext hxx, hxx.chg _, by simp⟩
end
end Go.Proofs.Ytboncnlcomeahaa

/- ref21.Records. -/
namespace Go.Proofs.Ytboncnlcomeahaa
set_option linter.unusedVariables false
set_option linter.unusedSimpArgs false
set_option linter.unnecessarySimpa false
set_option maxRecDepth 100000
open Go.RowKit
set_option maxHeartbeats 6400000 in
theorem rrecords_b (X : Avoid) (k : Kp) (vs ve : Value) (n : Nat) (w : World) (hX : ∀ j, X j → j < w.heap.size) (hkw : k.wide) (hks : k.small n) (hs : Enc.BsX w X vs k.snap.state) (he : Enc.Sl enE w X ve k.ents) (hn : n ≤ 1000) :
    Calls Try.prog 17 #[.agg (kpcells k vs ve).toArray] w fun e w' => RetRecs X w w' e (krecs k) := by
  obtain ⟨As0, cS0, rfl, -, -, -⟩ := id hs.1
  obtain ⟨Ae0, cE0, rfl, -, -⟩ := he.form
  have hB := Blk.new w 33 (kpcells k (.slice As0 k.snap.state.length cS0) (.slice Ae0 k.ents.length cE0)).toArray
  have hxw : Ext w (w.alloc (.cells (kpcells k (.slice As0 k.snap.state.length cS0) (.slice Ae0 k.ents.length cE0)).toArray 33)) := (Ext.rfl' _).alloc' _
  obtain ⟨g, hg⟩ : ∃ g, w.heap.size = g := ⟨_, rfl⟩
  rw [hg] at hB
  have hXl : ∀ j, X j → j < g := fun j hj => by rw [← hg]; exact hX j hj
  go_enter Try.func17, Try.ntmps17
  go_upto_region 1 with fail
  generalize (w.alloc (.cells (kpcells k (.slice As0 k.snap.state.length cS0) (.slice Ae0 k.ents.length cE0)).toArray 33)) = w1 at *
  try rw [hg]
  have hr1 := hB.lt
  have hX1 : ∀ j, (X j ∨ j = g) → j < w1.heap.size := fun j hj => by rcases hj with h | h; (have := hXl j h; omega); omega
  have hs3 := hs.ext hxw
  have he3 := he.ext hxw
  have hx3 := hxw
  have hB3 := hB
  generalize w1 = W3 at *
  have b0 := (hB3.cell 0).trans rfl
  have b1 := (hB3.cell 1).trans rfl
  obtain ⟨gl, hgl⟩ : ∃ g_, W3.heap.size = g_ := ⟨_, rfl⟩
  have hglg : g < gl := by rw [← hgl]; exact hB3.lt
  have hgl3 : W3.heap.size = gl := hgl
  have hX3 : ¬ X gl := fun h => by have := hXl _ h; omega
  have hown := Own.lit1S (E := reE) (w0 := W3) (w := W3) (X := X) (cs := recells (rHard k.hard) (.slice none 0 0) (.slice none 0 0)) (a := rHard k.hard) 38 (Ext.rfl' _) gl hgl hX3 (re_rep.2 ⟨_, _, rfl, rHard_wide hkw, Enc.BsX.nil _ _, Enc.BsX.nil _ _⟩)
  have hz : Ext W3 (W3.alloc (.cells #[.int .i64 1, .int .u64 k.hard.term, .int .i64 k.hard.vote, .int .u64 0, .slice none 0 0, .int .u64 0, .int .u64 0, .int .u64 0, .slice none 0 0] 38)) := (Ext.rfl' _).alloc' _
  change Own _ _ _ (W3.alloc (.cells #[.int .i64 1, .int .u64 k.hard.term, .int .i64 k.hard.vote, .int .u64 0, .slice none 0 0, .int .u64 0, .int .u64 0, .int .u64 0, .slice none 0 0] 38)) _ _ _ at hown
  go_upto_region 2 with fail
  try rw [hgl]
  clear b0 b1 hgl
  generalize (W3.alloc (.cells #[.int .i64 1, .int .u64 k.hard.term, .int .i64 k.hard.vote, .int .u64 0, .slice none 0 0, .int .u64 0, .int .u64 0, .int .u64 0, .slice none 0 0] 38)) = W4 at *
  have b2 := ((hB3.ext hz).cell 2).trans rfl
  go_upto_if 12 with fail
  go_cut [3] (fun vo wx => ∃ (l : List Rec) (A : Option Addr) (c : Nat), vo = .slice A l.length c ∧ Hid (l = krecs1 k) ∧ Own 38 reE W3 wx X (.slice A l.length c) l ∧ Ext W3 wx)
  case first =>
    rcases Bool.eq_false_or_eq_true (k.snap.index != 0) with h0 | h0
    · have b3 := ((hB3.ext hz).cell 3).trans rfl
      have b4 := ((hB3.ext hz).cell 4).trans rfl
      have hxa : Ext W4 (W4.alloc (.cells #[.int .i64 4, .int .u64 0, .int .i64 0, .int .u64 0, .slice none 0 0, .int .u64 0, .int .u64 k.snap.index, .int .u64 k.snap.term, .slice As0 k.snap.state.length cS0] 38)) := (Ext.rfl' _).alloc' _
      have hlit : Enc.Sl reE (W4.alloc (.cells #[.int .i64 4, .int .u64 0, .int .i64 0, .int .u64 0, .slice none 0 0, .int .u64 0, .int .u64 k.snap.index, .int .u64 k.snap.term, .slice As0 k.snap.state.length cS0] 38)) (fun j => X j ∨ (Value.slice (some (⟨gl, 0, none⟩ : Addr)) 1 1).ownBlock = some j) (.slice (some ⟨W4.heap.size, 0, none⟩) 1 1) [rSnap k.snap] :=
        Sl.one (E := reE) 38 (cs := recells (rSnap k.snap) (.slice none 0 0) (.slice As0 k.snap.state.length cS0)) (re_rep.2 ⟨_, _, rfl, rSnap_wide hkw, Enc.BsX.nil _ _, (hs3.mono (Y := fun j => X j ∨ (Value.slice (some (⟨gl, 0, none⟩ : Addr)) 1 1).ownBlock = some j) fun j hj h => by
          rcases h with h | h
          · exact h
          · have h9 : gl = j := Option.some.inj h
            omega).ext hz⟩) _ rfl (fun h => by
          rcases h with h | h
          · have := hXl _ h; have := hz.size; omega
          · have := (hown.lt _ h).2; omega)
      go_wp2_with (at_builtin; refine wpList_own elt_re 22 Try.underlying22 rfl _ _ rfl (hown.ext hxa) rfl (hz.trans' hxa) (m := [rSnap k.snap]) (y := .slice (some ⟨W4.heap.size, 0, none⟩) 1 1) rfl hlit (fun h => by have h1 := hXl _ h; have h2 := (hz.trans' hxa).size; omega) (by simp) (by simp) ?_; intro l2 A2 c2 w5 hl2 hown2 hx5 hc5)
      go_meet
      case rel => exact ⟨l2, A2, c2, rfl, hide (by rw [hl2.out]; unfold krecs1; rw [if_neg (by simpa using h0)]; rfl), hown2, hx5⟩
    · go_wp2_with fail
      go_meet
      case rel => exact ⟨[rHard k.hard], _, _, rfl, hide (by unfold krecs1; rw [if_pos (by simpa using h0)]), hown, hz⟩
  case rest =>
    obtain ⟨l1, A1, c1, rfl, hl1, hown1, hx4⟩ := hcut
    generalize wc = W5 at *
    clear b2 hown
    have hl1n : l1.length ≤ 2 := by rw [hl1.out]; exact krecs1_len k
    have hkn := hks.len
    have hKR : Hid (krecs k = l1 ++ k.ents.map rEnt) := hide (by rw [krecs_eq, hl1.out])
    obtain ⟨kr, hkr⟩ : ∃ kr, krecs k = kr := ⟨_, rfl⟩
    have HKR := hide hkr
    clear hkr
    have b5 := ((hB3.ext hx4).cell 5).trans rfl
    go_wp2_with fail
    go_loopw [3, 4] (fun vo i wr => ∃ (m : Nat) (l : List Rec) (A : Option Addr) (c : Nat), m ≤ k.ents.length ∧ vo = .slice A l.length c ∧ i = .int .i64 m ∧ Hid (l = l1 ++ (k.ents.take m).map rEnt) ∧ Own 38 reE W3 wr X (.slice A l.length c) l ∧ Ext W3 wr) (fun _ i _ => (k.ents.length - intOf i).toNat)
    case atStart => exact ⟨0, l1, A1, c1, by omega, rfl, rfl, hide (by simp), hown1, hx4⟩
    case round =>
      clear b5 hown1 hx4
      obtain ⟨m, l, A, c, hm, rfl, rfl, hl, hown, hxr⟩ := hrel
      have b5 := ((hB3.ext hxr).cell 5).trans rfl
      have hll : Hid (l.length ≤ 2 + m) := hide (by rw [hl.out]; simp; omega)
      by_cases hlt : m < k.ents.length
      · obtain ⟨ad, y, v, rfl, hyk, hbp, p0, p1, hyt, hyd⟩ := en_at he3 (k := m) hlt
        replace p0 := (hxr.cell (by rw [block_of_add]; exact hbp)).trans p0
        replace p1 := (hxr.cell (by show (ad.add (m * 2)).block < _; rw [block_of_add]; exact hbp)).trans p1
        obtain ⟨Ay, cy, rfl, -, -, -⟩ := id hyd.1
        have hm0 : (0 : Int) ≤ m := by omega
        have hml : (m : Int) < k.ents.length := by omega
        have HLT := hide hlt
        have HT : Hid (k.ents.take (m + 1) = k.ents.take m ++ [y]) := hide (take_snoc hyk.out)
        clear hlt
        have hxa : Ext wr (wr.alloc (.cells #[.int .i64 2, .int .u64 0, .int .i64 0, .int .u64 y.term, .slice Ay y.data.length cy, .int .u64 0, .int .u64 0, .int .u64 0, .slice none 0 0] 38)) := (Ext.rfl' _).alloc' _
        have hown3 := fun j h => (hown.lt j h).1
        have hlit : Enc.Sl reE (wr.alloc (.cells #[.int .i64 2, .int .u64 0, .int .i64 0, .int .u64 y.term, .slice Ay y.data.length cy, .int .u64 0, .int .u64 0, .int .u64 0, .slice none 0 0] 38)) (fun j => X j ∨ (Value.slice A l.length c).ownBlock = some j) (.slice (some ⟨wr.heap.size, 0, none⟩) 1 1) [rEnt y] :=
          Sl.one (E := reE) 38 (cs := recells (rEnt y) (.slice Ay y.data.length cy) (.slice none 0 0)) (re_rep.2 ⟨_, _, rfl, rEnt_wide hyt, (hyd.mono (Y := fun j => X j ∨ (Value.slice A l.length c).ownBlock = some j) fun j hj h => by
            rcases h with h | h
            · exact h
            · have := hown3 j h; omega).ext hxr, Enc.BsX.nil _ _⟩) _ rfl (fun h => by
            have h3 := hxr.size
            rcases h with h | h
            · have := hXl _ h; omega
            · have := (hown.lt _ h).2; omega)
        go_wp2_with (at_builtin; refine wpList_own elt_re 22 Try.underlying22 rfl _ _ rfl (hown.ext hxa) rfl (hxr.trans' hxa) (m := [rEnt y]) (y := .slice (some ⟨wr.heap.size, 0, none⟩) 1 1) rfl hlit (fun h => by have h1 := hXl _ h; have h2 := (hxr.trans' hxa).size; omega) (by have := hll.out; simp only [List.length_singleton]; omega) (by have := hll.out; simp only [List.length_singleton]; omega) ?_; intro l2 A2 c2 w5 hl2 hown2 hx5 hc5)
        go_roundw
        case rel => exact ⟨m + 1, l2, A2, c2, by have := HLT.out; omega, rfl, by go_num, hide (by rw [hl2.out, hl.out, HT.out]; simp), hown2, hx5⟩
        case measure => have := HLT.out; simp [intOf]; omega
      · obtain rfl : m = k.ents.length := by omega
        rw [List.take_length] at hl
        go_wp2
        go_ret
        exact ⟨l, A, c, hide (by rw [hl.out, ← hKR.out]), rfl, hown.base hx3.size, hx3.trans' hxr⟩
end Go.Proofs.Ytboncnlcomeahaa

/- ref21.Fold. -/
namespace Go.Proofs.Ytboncnlcomeahaa
set_option linter.unusedVariables false
set_option linter.unusedSimpArgs false
set_option linter.unnecessarySimpa false
set_option maxRecDepth 100000
open Go.RowKit
/-- what is known, in block g; it is only read -/
def RfV (X : Avoid) (w : World) (g : Nat) (k : Kp) (As : Option Addr) (cs : Nat) (Ae : Option Addr) (ce : Nat) : Prop :=
  Blk w g 33 #[.int .u64 k.hard.term, .int .i64 k.hard.vote, .int .u64 k.snap.index, .int .u64 k.snap.term, .slice As k.snap.state.length cs, .slice Ae k.ents.length ce] ∧ Enc.BsX w X (.slice As k.snap.state.length cs) k.snap.state ∧ Enc.Sl enE w X (.slice Ae k.ents.length ce) k.ents
def RfAt (X : Avoid) (w : World) (g : Nat) (k : Kp) : Prop := ∃ As cs Ae ce, RfV X w g k As cs Ae ce
theorem RfAt.ext {X : Avoid} {w w' : World} {g : Nat} {k : Kp} (h : RfAt X w g k) (hx : Ext w w') : RfAt X w' g k := by
  obtain ⟨As, cs, Ae, ce, h1, h2, h3⟩ := h
  exact ⟨As, cs, Ae, ce, h1.ext hx, h2.ext hx, h3.ext hx⟩
/-- along the appends of kind 2: how many stores were done -/
def RA (n1 g : Nat) (W1 : World) (xs new : List Value) (n : Nat) (old : Array Value) (mk : Value → Array Value) : Nat → World → Prop
  | 0, W => n1 ≤ W.heap.size ∧ Chg [g] W1 W ∧ Blk W g 33 old
  | _ + 1, W => Chg [g] W1 W ∧ ∃ v, Row2 n1 g 36 xs new n v W ∧ Blk W g 33 (mk v)
theorem RA.ext {n1 g : Nat} {W1 W W' : World} {xs new : List Value} {n : Nat} {old : Array Value} {mk : Value → Array Value} (h : RA n1 g W1 xs new n old mk 0 W) (hx : Ext W W') : RA n1 g W1 xs new n old mk 0 W' :=
  ⟨Nat.le_trans h.1 hx.size, h.2.1.trans (hx.chg _), h.2.2.ext hx⟩
theorem Chg.lessN {S T : List Nat} {a b : World} (h : Chg S a b) (hs : ∀ k, k ∈ S → k ∈ T ∨ a.heap.size ≤ k) : Chg T a b :=
  ⟨h.os, h.tape, h.output, h.size, fun k hk hn => h.block k hk fun hm => (hs k hm).elim hn fun h => by omega⟩
def RetKs (X : Avoid) (w w' : World) (e : Ending) (k : Kp) : Prop := ∃ (As : Option Addr) (cs : Nat) (Ae : Option Addr) (ce : Nat), e = .returned (.agg #[.int .u64 k.hard.term, .int .i64 k.hard.vote, .int .u64 k.snap.index, .int .u64 k.snap.term, .slice As k.snap.state.length cs, .slice Ae k.ents.length ce]) ∧
  Enc.BsX w' X (.slice As k.snap.state.length cs) k.snap.state ∧ Enc.Sl enE w' X (.slice Ae k.ents.length ce) k.ents ∧ Ext w w'
theorem ra_end {X : Avoid} {n1 g gw : Nat} {W4 W : World} {css : List (List Value)} {nw : List Value} {km : Kp} {y : En} {As A1 : Option Addr} {cs c1 : Nat} {old : Array Value}
    (hR : RA n1 g W4 css.flatten nw km.ents.length old (fun v => #[.int .u64 km.hard.term, .int .i64 km.hard.vote, .int .u64 km.snap.index, .int .u64 km.snap.term, .slice As km.snap.state.length cs, v]) 1 W) (hn1 : W4.heap.size = n1) (HNW : Hid (nw = [.int .u64 y.term, .slice A1 y.data.length c1]))
    (hea : Enc.Each enE W4 X css km.ents) (hFs : Enc.BsX W4 X (.slice As km.snap.state.length cs) km.snap.state) (he : 0 ≤ y.term ∧ y.term ≤ 18446744073709551615) (r2 : Enc.BsX W4 X (.slice A1 y.data.length c1) y.data)
    (hX : ∀ j, X j → j < gw) (hgw : gw ≤ n1) (hXg : X g) : RfAt X W g ⟨km.hard, km.snap, km.ents ++ [y]⟩ := by
  obtain ⟨hc, v, ⟨b, cap, cur, rfl, k1, k2, k3, k4, k5, k6, k7⟩, hB⟩ := hR
  have hin : ∀ j, j ∈ [g] → j < W4.heap.size → X j := fun j hj _ => by rw [List.mem_singleton.1 hj]; exact hXg
  have hnl : nw.length = 2 := by rw [HNW.out]; rfl
  have hlen : (km.ents ++ [y]).length = km.ents.length + 1 := by simp
  have hEE : Enc.Each enE W X (css ++ [nw]) (km.ents ++ [y]) := (hea.chg hc hin).app (.single (by rw [HNW.out]; exact en_rep.2 ⟨_, rfl, he, r2.chg hc hin⟩))
  have hfl : (css ++ [nw]).flatten = css.flatten ++ nw := by simp
  refine ⟨As, cs, some ⟨b, 0, none⟩, cap, ?_, hFs.chg hc hin, ?_⟩
  · simp only [hlen]; exact hB
  · simp only [hlen]
    refine ⟨_, _, css ++ [nw], by rw [hlen], by rw [hlen]; exact k4, k5, ⟨hEE.len, fun _ => ⟨_, rfl, k3.lt, fun j u hu => ?_⟩⟩, fun ad hv _ => ?_, hEE⟩
    · have hadd : (⟨b, 0, none⟩ : Addr).add j = ⟨b, j, none⟩ := by unfold Addr.add; split <;> simp_all
      rw [hadd, k3.cell, ← Array.getElem?_toList]
      rw [hfl] at hu
      exact take_allV k7 (by simp) j u hu
    · obtain rfl := Option.some.inj hv
      intro hx
      have := hX b hx
      omega
set_option maxHeartbeats 6400000 in
theorem rfold_b (X : Avoid) (k : Kp) (vs ve x : Value) (l : List Rec) (n : Nat) (w : World) (hX : ∀ j, X j → j < w.heap.size) (hkw : k.wide) (hks : k.small n) (hs : Enc.BsX w X vs k.snap.state) (he : Enc.Sl enE w X ve k.ents) (hx : Enc.Sl reE w X x l)
    (hl : ∀ r ∈ l, r.wide ∧ r.small) (hn : n + l.length ≤ 1000) :
    Calls Try.prog 13 #[.agg (kpcells k vs ve).toArray, x] w fun e w' => RetKs X w w' e (kfold k l) := by
  obtain ⟨Ax, cx, rfl, -, -⟩ := hx.form
  obtain ⟨kr, hkr⟩ : ∃ kr, kfold k l = kr := ⟨_, rfl⟩
  rw [hkr]
  have HKR := hide hkr
  clear hkr
  obtain ⟨As0, cS0, rfl, -, -, -⟩ := id hs.1
  obtain ⟨Ae0, cE0, rfl, -, -⟩ := he.form
  obtain ⟨hB, hR_, hxw⟩ := two_alK w 33 33 (kpcells k (.slice As0 k.snap.state.length cS0) (.slice Ae0 k.ents.length cE0)).toArray #[.int .u64 0, .int .i64 0, .int .u64 0, .int .u64 0, .slice none 0 0, .slice none 0 0]
  obtain ⟨g, hg⟩ : ∃ g, w.heap.size = g := ⟨_, rfl⟩
  rw [hg] at hB hR_
  have hXl : ∀ j, X j → j < g := fun j hj => by rw [← hg]; exact hX j hj
  go_enter Try.func13, Try.ntmps13
  go_upto_region 1 with fail
  generalize ((w.alloc (.cells (kpcells k (.slice As0 k.snap.state.length cS0) (.slice Ae0 k.ents.length cE0)).toArray 33)).alloc (.cells #[.int .u64 0, .int .i64 0, .int .u64 0, .int .u64 0, .slice none 0 0, .slice none 0 0] 33)) = w1 at *
  try rw [hg]
  have hr1 := hR_.lt
  have hX1 : ∀ j, XK X g j → j < w1.heap.size := fun j hj => by rcases hj with h | h; (have := hXl j h; omega); omega
  have hs' := (hs.mono (Y := XK X g) (fun j hj h => h.elim id fun h => by omega)).ext hxw
  have he' := (he.mono (Y := XK X g) (fun j hj h => h.elim id fun h => by omega)).ext hxw
  have hx' := (hx.mono (Y := XK X g) (fun j hj h => h.elim id fun h => by omega)).ext hxw
  have hFo : RfAt (XK X g) w1 g k := ⟨As0, cS0, Ae0, cE0, hB, hs', he'⟩
  clear hs' he' hB
  go_wp2_with fail
  go_loopw [5] (fun i wr => ∃ m : Nat, m ≤ l.length ∧ i = .int .i64 m ∧ RfAt (XK X g) wr g (kfold k (l.take m)) ∧ Chg [g] w1 wr) (fun i _ => (l.length - intOf i).toNat)
  case atStart => exact ⟨0, by omega, rfl, hFo, Chg.refl _ _⟩
  case round =>
    clear hFo
    obtain ⟨m, hm, rfl, hFo, hxr⟩ := hrel
    have hsm := Kp.small.fold (l.take m) hks (fun r hr => (hl r (List.mem_of_mem_take hr)).2)
    have hwd := Kp.wide.fold (l.take m) hkw (fun r hr => (hl r (List.mem_of_mem_take hr)).1)
    have hlt_ : (l.take m).length ≤ l.length := by rw [List.length_take]; omega
    have hxl := hx'.chg hxr (fun j hj _ => by have := List.mem_singleton.1 hj; exact .inr ⟨by omega, by omega⟩)
    by_cases hlt : m < l.length
    · obtain ⟨ad, r, v1, v2, rfl, hr, hb, p0, p1, p2, p3, p4, p5, p6, p7, p8, r1, r2, r3⟩ := re_at hxl hlt
      have hfs : kfold k (l.take (m + 1)) = kone (kfold k (l.take m)) r := by rw [take_snoc hr.out, kfold_snoc]
      have HFS := hide hfs
      clear hfs
      obtain ⟨km, hkm⟩ : ∃ q, kfold k (l.take m) = q := ⟨_, rfl⟩
      rw [hkm] at hFo hsm hwd HFS
      clear hkm
      obtain ⟨A1, c1, rfl, -, -, -⟩ := id r2.1
      obtain ⟨A2, c2, rfl, -, -, -⟩ := id r3.1
      have hz : Ext wr (wr.alloc (.cells (recells r (.slice A1 r.ent.data.length c1) (.slice A2 r.snap.state.length c2)).toArray 38)) := (Ext.rfl' _).alloc' _
      have hQ := Blk.new wr 38 (recells r (.slice A1 r.ent.data.length c1) (.slice A2 r.snap.state.length c2)).toArray
      obtain ⟨gq, hgq⟩ : ∃ g_, wr.heap.size = g_ := ⟨_, rfl⟩
      rw [hgq] at hQ
      have hm0 : (0 : Int) ≤ m := by omega
      have hml : (m : Int) < l.length := by omega
      have HLT := hide hlt
      clear hlt
      have hgq1 : w1.heap.size ≤ gq := by rw [← hgq]; exact hxr.size
      go_upto_region 5 with fail
      try rw [hgq]
      clear hgq p0 p1 p2 p3 p4 p5 p6 p7 p8
      generalize (wr.alloc (.cells (recells r (.slice A1 r.ent.data.length c1) (.slice A2 r.snap.state.length c2)).toArray 38)) = W4 at *
      replace hFo := hFo.ext hz
      replace r2 := r2.ext hz
      replace r3 := r3.ext hz
      replace hxr := hxr.trans (hz.chg [g])
      clear hz hxl
      have q0 := (hQ.cell 0).trans rfl
      go_upto_if 22 with fail
      rcases Bool.eq_false_or_eq_true (r.kind == 1) with k1 | k1
      · have HK : Hid (kone km r = ⟨r.hard, km.snap, km.ents⟩) := hide (by unfold kone; rw [if_pos (by simpa using k1)])
        obtain ⟨As, cs, Ae, ce, hF, hFs, hFe⟩ := hFo
        have q1 := (hQ.cell 1).trans rfl
        have q2 := (hQ.cell 2).trans rfl
        have d0 := (hF.cell 0).trans rfl
        have d1 := (hF.cell 1).trans rfl
        have f0 := hF.frozen 0
        have f1 := hF.frozen 1
        go_wp2
        have hcg : Chg [g] W4 ((W4.setCell ⟨g, 0, none⟩ (.int .u64 r.hard.term)).setCell ⟨g, 1, none⟩ (.int .i64 r.hard.vote)) := ((Chg.refl _ _).set (by simp) _).set (by simp) _
        have hin : ∀ j, j ∈ [g] → j < W4.heap.size → XK X g j := fun j hj _ => by have := List.mem_singleton.1 hj; exact .inr ⟨by omega, by omega⟩
        go_roundw
        case rel => exact ⟨m + 1, by have := HLT.out; omega, by go_num, by rw [HFS.out, HK.out]; exact ⟨As, cs, Ae, ce, (hF.set_ 0 _).set_ 1 _, hFs.chg hcg hin, hFe.chg hcg hin⟩, hxr.trans hcg⟩
        case measure => have := HLT.out; simp [intOf]; omega
      have K1 : Hid (¬ r.kind = 1) := hide (by simpa using k1)
      rcases Bool.eq_false_or_eq_true (r.kind == 2) with k2 | k2
      · have HK : Hid (kone km r = ⟨km.hard, km.snap, km.ents ++ [r.ent]⟩) := hide (by unfold kone; rw [if_neg K1.out, if_pos (by simpa using k2)])
        obtain ⟨As, cs, Ae, ce, hF, hFs, hFe⟩ := hFo
        obtain ⟨A_, c_, css, he_, hlc_, hcm_, hrd, hnx, hea⟩ := id hFe
        simp only [Value.slice.injEq, true_and] at he_
        obtain ⟨rfl, rfl⟩ := he_
        obtain ⟨n1, hn1⟩ : ∃ n_, W4.heap.size = n_ := ⟨_, rfl⟩
        have hgn : g < n1 := by rw [← hn1]; exact hF.lt
        have hgqn : gq < n1 := by rw [← hn1]; exact hQ.lt
        have hgqg : gq ≠ g := by omega
        have hlk : km.ents.length ≤ 1000 := by have := hsm.len; omega
        have hrw := (hl r (List.mem_of_getElem? hr.out)).1
        obtain ⟨nw, hnw⟩ : ∃ l_ : List Value, l_ = [.int .u64 r.ent.term, .slice A1 r.ent.data.length c1] := ⟨_, rfl⟩
        have HNW := hide hnw
        have hnl : nw.length = 2 := by rw [hnw]; rfl
        have hno : ∀ u ∈ nw, u.oneCell' = true := by rw [hnw]; intro u hu; simp at hu; rcases hu with rfl | rfl <;> rfl
        obtain ⟨i0, hi0, hz0, hz1, hz2⟩ := info_parts elt_en.info
        have hrun1 := fun (W : World) v (h1 : n1 ≤ W.heap.size) (h2 : Row0 n1 g 36 v W) (hrd : Reads W W.heap.size enE.size Ae km.ents.length css.flatten) => run_row1 (P := Try.prog) (new := nw) (c := ce) 31 31 i0 Try.underlying31 hi0 hz0 (hz1.trans hnl.symm) hz2 (elt_en.zs.trans hnl.symm) (by rw [hnl]; decide) h1 hgn h2 (by rw [hnl]; exact hrd) hea.one (by omega) (by decide)
        have hrun2 := fun (W : World) v y (h1 : n1 ≤ W.heap.size) (h2 : Row1 n1 g 36 css.flatten nw km.ents.length v W) (h3 : Lit1 n1 g 36 nw y W) => run_row2 (P := Try.prog) (new := nw) 31 31 i0 Try.underlying31 hi0 hz0 (hz1.trans hnl.symm) hz2 (elt_en.zs.trans hnl.symm) (by rw [hnl]; decide) h1 hgn (by rw [hea.len, hnl]; rfl) hno (by omega) (by decide) h2 h3
        have hnp : 0 < nw.length := by rw [hnl]; decide
        have HL := hide hnl
        clear hnw hnl hno
        have HR1 := hide hrun1
        have HR2 := hide hrun2
        clear hrun1 hrun2
        go_upto_region 9 with fail
        refine Rg.regionE Try.checked.mixed 121 10 (by kernel_rfl) [
          ((false, true), (fun v W => Row0 n1 g 36 v W)),
          ((false, true), (fun x_ _ => x_ = .pointer (some ⟨g, 5, none⟩))),
          ((false, true), (fun x_ _ => x_ = .slice Ae km.ents.length ce)),
          ((false, true), (fun v W => Row1 n1 g 36 css.flatten nw km.ents.length v W)),
          ((false, true), (fun x_ _ => x_ = .pointer (some ⟨gq, 3, none⟩))),
          ((false, true), (fun x_ _ => x_ = .agg #[.int .u64 r.ent.term, .slice A1 r.ent.data.length c1])),
          ((false, true), (fun v W => Lit1 n1 g 36 nw v W)),
          ((false, true), (fun v W => Row2 n1 g 36 css.flatten nw km.ents.length v W)),
          ((false, true), (fun x_ _ => x_ = .pointer (some ⟨g, 5, none⟩))),
          ((true, false), (fun x_ _ => x_ = undef))] (by kernel_rfl) (RA n1 g W4 css.flatten nw km.ents.length #[.int .u64 km.hard.term, .int .i64 km.hard.vote, .int .u64 km.snap.index, .int .u64 km.snap.term, .slice As km.snap.state.length cs, .slice Ae km.ents.length ce] (fun v => #[.int .u64 km.hard.term, .int .i64 km.hard.vote, .int .u64 km.snap.index, .int .u64 km.snap.term, .slice As km.snap.state.length cs, v])) (Gr n1 g 36 css.flatten nw) rfl rfl rfl
          ?st ⟨Nat.le_of_eq hn1.symm, (Chg.refl [g] _).drew, hF.drew⟩ ?ob ?en
        case st => exact ⟨fun _ _ _ h hG => h.last hnp hG, fun _ _ _ h _ => h, fun _ _ _ h _ => h, fun _ _ _ h hG => h.last hG, fun _ _ _ h _ => h, fun _ _ _ h _ => h, fun _ _ _ h hG => h.last hG, fun _ _ _ h hG => h.last hG, fun _ _ _ h _ => h, fun _ _ _ h _ => h, trivial⟩
        case ob =>
          refine ⟨Rg.e2 (Rg.at_runW [] rfl ?_), ?_⟩
          · intro ρ W hR _
            refine ⟨rfl, ?_⟩
            exact Rg.run_ok (v := .slice (some ⟨W.heap.size, 0, none⟩) 0 0) (W' := W.alloc (.cells #[] 36)) (by simp [execOp, Rg.ev, go_sem] <;> rfl) ⟨row0_new _ hR.1 hgn, hR.ext ((Ext.rfl' W).alloc' _), .of_ext ((Ext.rfl' W).alloc' _)⟩
          refine ⟨Rg.e2 (Rg.at_runW [2] rfl ?_), ?_⟩
          · intro ρ W hR ⟨q2, _⟩
            replace q2 : ρ 2 = .pointer (some ⟨g, 0, none⟩) := q2
            refine ⟨rfl, ?_⟩
            exact Rg.run_ok (v := .pointer (some ⟨g, 5, none⟩)) (by simp [execOp, Rg.ev, go_sem, q2]) ⟨rfl, hR, Gr.refl _⟩
          refine ⟨Rg.e2 (Rg.at_runW [30] rfl ?_), ?_⟩
          · intro ρ W hR ⟨q30, _⟩
            replace q30 : ρ 30 = .pointer (some ⟨g, 5, none⟩) := q30
            refine ⟨rfl, ?_⟩
            have c_ : W.cell? ⟨g, 5, none⟩ = some (.slice Ae km.ents.length ce) := (hR.2.2.cell 5).trans rfl
            exact Rg.run_ok (v := .slice Ae km.ents.length ce) (by simp [execOp, Rg.ev, go_sem, q30, c_]) ⟨rfl, hR, Gr.refl _⟩
          refine ⟨Rg.e2 (Rg.at_runW [29, 31] rfl ?_), ?_⟩
          · intro ρ W hR ⟨q29, q31, _⟩
            replace q29 : (fun v W => Row0 n1 g 36 v W) (ρ 29) W := q29
            replace q31 : ρ 31 = .slice Ae km.ents.length ce := q31
            refine ⟨rfl, ?_⟩
            obtain ⟨v', w', hrun, h2, h3⟩ := HR1.out W (ρ 29) hR.1 q29 (hrd.chg hR.2.1 (fun ad he h0 hm => hnx ad he h0 (.inr ⟨by have := List.mem_singleton.1 hm; omega, by have := List.mem_singleton.1 hm; omega⟩)))
            exact Rg.run_ok (by simp only [execOp, resolve, invoke, builtin, Sem.run_bind, Sem.run_pure, Result.andThen_ok, List.map_toArray, List.map_cons, List.map_nil, Rg.ev, q31, hrun]) ⟨h2, hR.ext h3, .of_ext h3⟩
          refine ⟨Rg.e2 (Rg.at_runW [6] rfl ?_), ?_⟩
          · intro ρ W hR ⟨q6, _⟩
            replace q6 : ρ 6 = .pointer (some ⟨gq, 0, none⟩) := q6
            refine ⟨rfl, ?_⟩
            exact Rg.run_ok (v := .pointer (some ⟨gq, 3, none⟩)) (by simp [execOp, Rg.ev, go_sem, q6]) ⟨rfl, hR, Gr.refl _⟩
          refine ⟨Rg.e2 (Rg.at_runW [33] rfl ?_), ?_⟩
          · intro ρ W hR ⟨q33, _⟩
            replace q33 : ρ 33 = .pointer (some ⟨gq, 3, none⟩) := q33
            refine ⟨rfl, ?_⟩
            have c3_ : W.cell? ⟨gq, 3, none⟩ = some (.int .u64 r.ent.term) := ((hQ.chg hR.2.1 (by simpa using hgqg)).cell 3).trans rfl
            have c4_ : W.cell? ⟨gq, 4, none⟩ = some (.slice A1 r.ent.data.length c1) := ((hQ.chg hR.2.1 (by simpa using hgqg)).cell 4).trans rfl
            exact Rg.run_ok (v := .agg #[.int .u64 r.ent.term, .slice A1 r.ent.data.length c1]) (by simp [execOp, Rg.ev, go_sem, q33, c3_, c4_]) ⟨rfl, hR, Gr.refl _⟩
          refine ⟨Rg.e2 (Rg.at_runW [34] rfl ?_), ?_⟩
          · intro ρ W hR ⟨q34, _⟩
            replace q34 : ρ 34 = .agg #[.int .u64 r.ent.term, .slice A1 r.ent.data.length c1] := q34
            refine ⟨rfl, ?_⟩
            have h9 := lit1_new (new := nw) 36 hR.1 hgn
            rw [HNW.out] at h9
            exact Rg.run_ok (v := .slice (some ⟨W.heap.size, 0, none⟩) 1 1) (W' := W.alloc (.cells #[.int .u64 r.ent.term, .slice A1 r.ent.data.length c1] 36)) (by simp [execOp, Rg.ev, go_sem, q34] <;> rfl) ⟨by rw [HNW.out]; exact h9, hR.ext ((Ext.rfl' W).alloc' _), .of_ext ((Ext.rfl' W).alloc' _)⟩
          refine ⟨Rg.e2 (Rg.at_runW [32, 35] rfl ?_), ?_⟩
          · intro ρ W hR ⟨q32, q35, _⟩
            replace q32 : (fun v W => Row1 n1 g 36 css.flatten nw km.ents.length v W) (ρ 32) W := q32
            replace q35 : (fun v W => Lit1 n1 g 36 nw v W) (ρ 35) W := q35
            refine ⟨rfl, ?_⟩
            obtain ⟨v', w', S, hrun, h2, h3, h4, h5⟩ := HR2.out W (ρ 32) (ρ 35) hR.1 q32 q35
            exact Rg.run_ok (by simp only [execOp, resolve, invoke, builtin, Sem.run_bind, Sem.run_pure, Result.andThen_ok, List.map_toArray, List.map_cons, List.map_nil, Rg.ev, hrun]) ⟨h2, ⟨Nat.le_trans hR.1 h4.size, ((hR.2.1.mono (T := g :: S) (by simp)).trans (h4.mono (by simp_all))).lessN (fun k hk => (List.mem_cons.1 hk).elim (fun h => .inl (by simp [h])) fun h => .inr (by rw [hn1]; exact h5 k h)), hR.2.2.chg h4 (fun hm => by have := h5 g hm; omega)⟩, h3⟩
          refine ⟨Rg.e2 (Rg.at_runW [2] rfl ?_), ?_⟩
          · intro ρ W hR ⟨q2, _⟩
            replace q2 : ρ 2 = .pointer (some ⟨g, 0, none⟩) := q2
            refine ⟨rfl, ?_⟩
            exact Rg.run_ok (v := .pointer (some ⟨g, 5, none⟩)) (by simp [execOp, Rg.ev, go_sem, q2]) ⟨rfl, hR, Gr.refl _⟩
          refine ⟨Rg.e1 (Rg.at_runW [37, 36] rfl ?_), ?_⟩
          · intro ρ W hR ⟨q37, q36, _⟩
            replace q37 : ρ 37 = .pointer (some ⟨g, 5, none⟩) := q37
            replace q36 : (fun v W => Row2 n1 g 36 css.flatten nw km.ents.length v W) (ρ 36) W := q36
            refine ⟨rfl, ?_⟩
            have c_ : W.cell? ⟨g, 5, none⟩ = some (.slice Ae km.ents.length ce) := (hR.2.2.cell 5).trans rfl
            have z_ := hR.2.2.frozen 5
            obtain ⟨b_, cap_, cur_, hv_, i1, i2, i3, i4⟩ := id q36
            exact Rg.run_skip (W' := W.setCell ⟨g, 5, none⟩ (ρ 36)) (by rw [hv_]; simp [execOp, Rg.ev, go_sem, q37, hv_, c_, z_]) ⟨rfl, ⟨hR.2.1.set (by simp) _, ρ 36, q36.last (.of_chg ((Chg.refl [g] _).set (by simp) _)), hR.2.2.set_ 5 _⟩, .of_chg ((Chg.refl [g] _).set (by simp) _)⟩
          trivial
        case en =>
          intro tm W hR hsz hk
          rw [Rg.fin_eq (ds := [29, 30, 31, 32, 33, 34, 35, 36, 37]) rfl rfl rfl hsz hk]
          have k29 : (fun v W => Row0 n1 g 36 v W) (tm.getD 29 undef) W := hk 29
          have k30 : tm.getD 30 undef = .pointer (some ⟨g, 5, none⟩) := hk 30
          have k31 : tm.getD 31 undef = .slice Ae km.ents.length ce := hk 31
          have k32 : (fun v W => Row1 n1 g 36 css.flatten nw km.ents.length v W) (tm.getD 32 undef) W := hk 32
          have k33 : tm.getD 33 undef = .pointer (some ⟨gq, 3, none⟩) := hk 33
          have k34 : tm.getD 34 undef = .agg #[.int .u64 r.ent.term, .slice A1 r.ent.data.length c1] := hk 34
          have k35 : (fun v W => Lit1 n1 g 36 nw v W) (tm.getD 35 undef) W := hk 35
          have k36 : (fun v W => Row2 n1 g 36 css.flatten nw km.ents.length v W) (tm.getD 36 undef) W := hk 36
          have k37 : tm.getD 37 undef = .pointer (some ⟨g, 5, none⟩) := hk 37
          clear hk hsz
          simp only [Rg.putAll, List.setIfInBounds_toArray, List.set_cons_zero, List.set_cons_succ, k30, k31, k33, k34, k37]
          generalize tm.getD 29 undef = u29 at *
          clear k30
          clear k31
          generalize tm.getD 32 undef = u32 at *
          clear k33
          clear k34
          generalize tm.getD 35 undef = u35 at *
          generalize tm.getD 36 undef = u36 at *
          clear k37
          refine Rg.nil_list ?_

          go_wp2_with fail
          go_roundw
          case rel => exact ⟨m + 1, by have := HLT.out; omega, by go_num, by rw [HFS.out, HK.out]; exact ra_end hR hn1 HNW hea hFs ⟨hrw.e0, hrw.e1⟩ r2 hX1 (by rw [← hn1]; exact hxr.size) (.inr ⟨by omega, by omega⟩), hxr.trans hR.1⟩
          case measure => have := HLT.out; simp [intOf]; omega
      have K2 : Hid (¬ r.kind = 2) := hide (by simpa using k2)
      rcases Bool.eq_false_or_eq_true (r.kind == 3) with k3 | k3
      · have HK0 : Hid (kone km r = ⟨km.hard, km.snap, km.ents.take (kcutN km r.index)⟩) := hide (by unfold kone; rw [if_neg K1.out, if_neg K2.out, if_pos (by simpa using k3)])
        obtain ⟨N, hN⟩ : ∃ N, kcutN km r.index = N := ⟨_, rfl⟩
        have HK : Hid (kone km r = ⟨km.hard, km.snap, km.ents.take N⟩) := hide (by rw [HK0.out, hN])
        have HN := hide hN
        clear hN HK0
        obtain ⟨As, cs, Ae, ce, hF, hFs, hFe⟩ := hFo
        have hrw := (hl r (List.mem_of_getElem? hr.out)).1
        have hn0 := hwd.n0
        have hn1 := hwd.n1
        have hi0 := hrw.i0
        have hi1 := hrw.i1
        have hlk : km.ents.length ≤ 1000 := by have := hsm.len; omega
        have hNl : N ≤ km.ents.length := by rw [← HN.out]; unfold kcutN; split <;> omega
        have q5 := (hQ.cell 5).trans rfl
        have d2 := (hF.cell 2).trans rfl
        have d5 := (hF.cell 5).trans rfl
        go_upto_block 3 with fail
        go_cut [7] from 10 to 119 (fun v7 wx => v7 = .int .i64 N ∧ W4 = wx)
        case first =>
          go_wp2_with fail
          go_loop [7] (fun v => ∃ q : Nat, q ≤ N ∧ v = .int .i64 q) (fun v => (N - intOf v).toNat)
          case atStart => exact ⟨0, by omega, rfl⟩
          case round =>
            obtain ⟨q, hqN, rfl⟩ := hrel
            by_cases c1 : (q : Int) < km.ents.length
            · by_cases c2 : km.snap.index < r.index
              · obtain ⟨u, hu⟩ : ∃ u : Nat, r.index - km.snap.index = ((u + 1 : Nat) : Int) := ⟨(r.index - km.snap.index - 1).toNat, by omega⟩
                have hw1 : IntKind.u64.wrap (r.index - km.snap.index) = (u : Int) + 1 := by rw [hu]; exact IntWalk.u64_in _ ⟨by omega, by omega⟩
                have hw2 : IntKind.u64.wrap ((u : Int) + 1 - 1) = (u : Int) := by rw [show (u : Int) + 1 - 1 = u by omega]; exact IntWalk.u64_in _ ⟨by omega, by omega⟩
                have hw3 : IntKind.u64.wrap (u : Int) = u := IntWalk.u64_in _ ⟨by omega, by omega⟩
                have hconv : IntKind.u64.wrap (q : Int) = q := IntWalk.u64_in _ ⟨by omega, by omega⟩
                have hNu : Hid (N = min km.ents.length u) := hide (by rw [← HN.out]; unfold kcutN; rw [if_neg (by omega)]; congr 1; omega)
                clear hu
                by_cases c3 : (q : Int) < u
                · go_wp2
                  go_round
                  case rel => exact ⟨q + 1, by have := hNu.out; omega, by go_num⟩
                  case measure => have := hNu.out; simp [intOf]; omega
                · go_wp2
                  go_meet
                  case rel => exact ⟨by rw [show q = N by have := hNu.out; omega], rfl⟩
              · go_wp2
                go_meet
                case rel => exact ⟨by rw [show q = N by have := HN.out; unfold kcutN at this; rw [if_pos (by omega)] at this; omega], rfl⟩
            · go_wp2
              go_meet
              case rel => exact ⟨by rw [show q = N by omega], rfl⟩
        case rest =>
          obtain ⟨rfl, rfl⟩ := hcut
          obtain ⟨A', c', he', hlec, hce⟩ := hFe.form
          simp only [Value.slice.injEq, true_and] at he'
          obtain ⟨rfl, rfl⟩ := he'
          simp only [maxLen] at hce
          have hXW : ∀ j, XK X g j → j < W4.heap.size := fun j hj => Nat.lt_of_lt_of_le (hX1 j hj) hxr.size
          have hxa : Ext W4 (W4.alloc (.cells #[] 36)) := (Ext.rfl' W4).alloc' _
          have e5 := ((hF.alloc (.cells #[] 36)).cell 5).trans rfl
          obtain ⟨i0, hi0, hz0, hz1, hz2⟩ := info_parts elt_en.info
          have hNc : N ≤ ce := by omega
          have hsl := fun W => run_sl_h (P := Try.prog) (A := Ae) (n := km.ents.length) (c := ce) (hi := (N : Int)) (kh := .i64) Try.underlying31 hi0 hz1 N rfl hNc W
          have hdl : (km.ents.take N).length = N := by rw [List.length_take]; omega
          have hfr := Sl.front hFe hNl
          go_wp2_with (at_builtin; refine wpList_own elt_en 31 Try.underlying31 rfl _ _ rfl (Own.lit0 (w0 := W4) (X := XK X g) _ _ (Ext.rfl' W4) _ rfl (fun h => Nat.lt_irrefl _ (hXW _ h))) rfl hxa (m := km.ents.take N) rfl (Sl.apartG (w0 := W4) hfr hxa (own_litG W4)) (fun h => by have := hXW _ h; simp at this; omega) (by simp only [List.length_nil, hdl]; omega) (by simp only [List.length_nil, hdl]; omega) ?_; intro l2 A2' c2' w5 hl2 hown2 hx5 hc5; have hB5 := hF.ext hx5; have f5 := hB5.frozen 5; have y5 := (hB5.cell 5).trans rfl)
          have hcg : Chg [g] w5 (w5.setCell ⟨g, 5, none⟩ (.slice A2' l2.length c2')) := (Chg.refl _ _).set (by simp) _
          have hin : ∀ j, j ∈ [g] → j < w5.heap.size → XK X g j := fun j hj _ => by have := List.mem_singleton.1 hj; exact .inr ⟨by omega, by omega⟩
          go_roundw
          case rel => exact ⟨m + 1, by have := HLT.out; omega, by go_num, by
            rw [HFS.out, HK.out]
            have hl2' := hl2.out
            rw [List.nil_append] at hl2'
            rw [← hl2']
            exact ⟨As, cs, A2', c2', hB5.set_ 5 _, (hFs.ext hx5).chg hcg hin, (hown2.sl).chg hcg hin⟩, (hxr.trans (hx5.chg _)).trans hcg⟩
          case measure => have := HLT.out; simp [intOf]; omega
      have K3 : Hid (¬ r.kind = 3) := hide (by simpa using k3)
      rcases Bool.eq_false_or_eq_true (r.kind == 4) with k4 | k4
      · obtain ⟨As, cs, Ae, ce, hF, hFs, hFe⟩ := hFo
        have q6 := (hQ.cell 6).trans rfl
        have d2 := (hF.cell 2).trans rfl
        have hrw := (hl r (List.mem_of_getElem? hr.out)).1
        have hin : ∀ W : World, ∀ j, j ∈ [g] → j < W.heap.size → XK X g j := fun W j hj _ => by have := List.mem_singleton.1 hj; exact .inr ⟨by omega, by omega⟩
        by_cases hle2 : r.snap.index ≤ km.snap.index
        · have HK : Hid (kone km r = km) := hide (by unfold kone; rw [if_neg K1.out, if_neg K2.out, if_neg K3.out, if_pos (by simpa using k4)]; exact if_pos hle2)
          go_wp2_with fail
          go_roundw
          case rel => exact ⟨m + 1, by have := HLT.out; omega, by go_num, by rw [HFS.out, HK.out]; exact ⟨As, cs, Ae, ce, hF, hFs, hFe⟩, hxr⟩
          case measure => have := HLT.out; simp [intOf]; omega
        · have HK : Hid (kone km r = ⟨km.hard, r.snap, ksnapE km r.snap⟩) := hide (by unfold kone; rw [if_neg K1.out, if_neg K2.out, if_neg K3.out, if_pos (by simpa using k4)]; exact if_neg hle2)
          have hn0 := hwd.n0
          have hn1 := hrw.n1
          have hlk : km.ents.length ≤ 1000 := by have := hsm.len; omega
          obtain ⟨u, hu⟩ : ∃ u : Nat, r.snap.index - km.snap.index = ((u + 1 : Nat) : Int) := ⟨(r.snap.index - km.snap.index - 1).toNat, by omega⟩
          have hw1 : IntKind.u64.wrap (r.snap.index - km.snap.index) = (u : Int) + 1 := by rw [hu]; exact IntWalk.u64_in _ ⟨by omega, by omega⟩
          have hw2 : IntKind.u64.wrap ((u : Int) + 1 - 1) = (u : Int) := by rw [show (u : Int) + 1 - 1 = u by omega]; exact IntWalk.u64_in _ ⟨by omega, by omega⟩
          have hconv : IntKind.u64.wrap (km.ents.length : Int) = km.ents.length := IntWalk.u64_in _ ⟨by omega, by omega⟩
          have HQ : Hid (snapQ km r.snap = (decide (((u + 1 : Nat) : Int) ≤ km.ents.length) && (km.ents[u]?).any (fun e => decide (e.term = r.snap.term)))) := hide (by unfold snapQ; rw [hu]; rfl)
          have HM := hide hu
          clear hu
          go_upto_region 19 with fail
          have d5 := (hF.cell 5).trans rfl
          have q7 := (hQ.cell 7).trans rfl
          have hdx := (Ext.rfl' W4).drew'
          go_cut [108] from 10 to 119 (fun b wx => b = .bool (snapQ km r.snap) ∧ Ext W4 wx)
          case first =>
            by_cases hle : ((u : Int) + 1) ≤ km.ents.length
            · obtain ⟨ad, y, vy, rfl, hyk, hbp, p0, p1, -, -⟩ := en_at hFe (k := u) (by omega)
              have hm0 : (0 : Int) ≤ u := by omega
              have hml : (u : Int) < km.ents.length := by omega
              rcases Bool.eq_false_or_eq_true (y.term == r.snap.term) with ht | ht
              · have HQ2 : Hid (snapQ km r.snap = true) := hide (by rw [HQ.out, hyk.out]; simp at ht; simp [ht]; omega)
                go_region
                go_wp2_with fail
                go_meet
                case rel => exact ⟨by rw [HQ2.out], hdx⟩
              · have HQ2 : Hid (snapQ km r.snap = false) := hide (by rw [HQ.out, hyk.out]; simp at ht; simp [ht])
                go_region
                go_wp2_with fail
                go_meet
                case rel => exact ⟨by rw [HQ2.out], hdx⟩
            · have HQ2 : Hid (snapQ km r.snap = false) := hide (by rw [HQ.out, decide_eq_false (by omega)]; rfl)
              go_region
              go_wp2_with fail
              go_meet
              case rel => exact ⟨by rw [HQ2.out], hdx⟩
          case rest =>
            obtain ⟨rfl, hxc⟩ := hcut
            generalize wc = W5 at *
            replace hF := hF.ext hxc
            replace hFs := hFs.ext hxc
            replace hFe := hFe.ext hxc
            replace hQ := hQ.ext hxc
            have r3c := r3.ext hxc
            have hxr5 := hxr.trans (hxc.chg [g])
            clear d5 q7 hdx q6 d2
            have d5 := (hF.cell 5).trans rfl
            obtain ⟨A', c', he', hlec, hce⟩ := hFe.form
            simp only [Value.slice.injEq, true_and] at he'
            obtain ⟨rfl, rfl⟩ := he'
            simp only [maxLen] at hce
            obtain ⟨q, hq⟩ : ∃ q, snapQ km r.snap = q := ⟨_, rfl⟩
            rw [hq]
            have HQQ := hide hq
            clear hq
            have hX5 : ¬ XK X g W5.heap.size := fun h => by
              have := hX1 _ h; have := hxr5.size; omega
            go_upto_if 108 with fail
            go_cut [8] from 10 to 119 (fun v8 wx => ∃ A c, v8 = .slice A (ksnapE km r.snap).length c ∧ Enc.Sl enE wx (XK X g) (.slice A (ksnapE km r.snap).length c) (ksnapE km r.snap) ∧ Ext W5 wx)
            case first =>
              cases q with
              | true =>
                have hml : u + 1 ≤ km.ents.length := by
                  have := HQQ.out
                  rw [HQ.out] at this
                  simp at this
                  omega
                obtain ⟨i0, hi0, hz0, hz1, hz2⟩ := info_parts elt_en.info
                have hsl := fun W => run_sl_l (P := Try.prog) (A := Ae) (n := km.ents.length) (c := ce) (lo := (u : Int) + 1) (kl := .u64) Try.underlying31 hi0 hz1 (u + 1) (by simp) (by omega) W
                have hdl : (km.ents.drop (u + 1)).length = km.ents.length - (u + 1) := List.length_drop
                have hy := (Sl.rest hFe hml).mono (Y := fun j => XK X g j ∨ (Value.slice none 0 0).ownBlock = some j) (fun j _ h => h.elim id (fun h => by cases h))
                have HE : Hid (ksnapE km r.snap = km.ents.drop (u + 1)) := hide (by rw [ksnapE_q, HQQ.out, if_pos rfl, HM.out]; rfl)
                go_wp2_with (at_builtin; refine wpList_own elt_en 31 Try.underlying31 rfl _ _ rfl (Own.nil _ _ W5 W5 (XK X g)) rfl (Ext.rfl' W5) (m := km.ents.drop (u + 1)) rfl hy hX5 (by simp only [List.length_nil, hdl]; omega) (by simp only [List.length_nil, hdl]; omega) ?_; intro l2 A2 c2 w5 hl2 hown2 hx5 hc5)
                go_meet
                case rel =>
                  rw [HE.out]
                  obtain rfl : l2 = km.ents.drop (u + 1) := by rw [hl2.out]; rfl
                  exact ⟨A2, c2, rfl, hown2.sl, hx5⟩
              | false =>
                go_wp2_with fail
                go_meet
                case rel =>
                  rw [show ksnapE km r.snap = [] by rw [ksnapE_q, HQQ.out, if_neg (by simp)]]
                  exact ⟨none, 0, rfl, Enc.Sl.nil _ _ _, Ext.rfl' _⟩
            case rest =>
              obtain ⟨A8, c8, rfl, hE8, hx8⟩ := hcut
              generalize wc = W6 at *
              clear d5
              replace hF := hF.ext hx8
              replace hFs := hFs.ext hx8
              replace hQ := hQ.ext hx8
              have r3d := r3c.ext hx8
              have hxr6 := hxr5.trans (hx8.chg [g])
              have q6 := (hQ.cell 6).trans rfl
              have q7 := (hQ.cell 7).trans rfl
              have q8 := (hQ.cell 8).trans rfl
              have d2 := (hF.cell 2).trans rfl
              have d3 := (hF.cell 3).trans rfl
              have d4 := (hF.cell 4).trans rfl
              have d5 := (hF.cell 5).trans rfl
              have f2 := hF.frozen 2
              have f3 := hF.frozen 3
              have f4 := hF.frozen 4
              have f5 := hF.frozen 5
              go_wp2
              have hcg : Chg [g] W6 ((((W6.setCell ⟨g, 2, none⟩ (.int .u64 r.snap.index)).setCell ⟨g, 3, none⟩ (.int .u64 r.snap.term)).setCell ⟨g, 4, none⟩ (.slice A2 r.snap.state.length c2)).setCell ⟨g, 5, none⟩ (.slice A8 (ksnapE km r.snap).length c8)) := ((((Chg.refl _ _).set (by simp) _).set (by simp) _).set (by simp) _).set (by simp) _
              go_roundw
              case rel => exact ⟨m + 1, by have := HLT.out; omega, by go_num, by rw [HFS.out, HK.out]; exact ⟨A2, c2, A8, c8, (((hF.set_ 2 _).set_ 3 _).set_ 4 _).set_ 5 _, r3d.chg hcg (hin _), hE8.chg hcg (hin _)⟩, hxr6.trans hcg⟩
              case measure => have := HLT.out; simp [intOf]; omega
      have HK : Hid (kone km r = km) := hide (by unfold kone; rw [if_neg K1.out, if_neg K2.out, if_neg K3.out, if_neg (by simpa using k4)])
      go_wp2_with fail
      go_roundw
      case rel => exact ⟨m + 1, by have := HLT.out; omega, by go_num, by rw [HFS.out, HK.out]; exact hFo, hxr.trans (Chg.refl _ _)⟩
      case measure => have := HLT.out; simp [intOf]; omega
    · obtain rfl : m = l.length := by omega
      rw [List.take_length] at hFo hsm hwd
      rw [HKR.out] at hFo hsm hwd
      obtain ⟨As, cs, Ae, ce, hF, hFs, hFe⟩ := hFo
      have hR6 := hR_.chg hxr (by simp)
      have b0 := (hF.cell 0).trans rfl
      have b1 := (hF.cell 1).trans rfl
      have b2 := (hF.cell 2).trans rfl
      have b3 := (hF.cell 3).trans rfl
      have b4 := (hF.cell 4).trans rfl
      have b5 := (hF.cell 5).trans rfl
      have r0 := (hR6.cell 0).trans rfl
      have r1 := (hR6.cell 1).trans rfl
      have r2 := (hR6.cell 2).trans rfl
      have r3 := (hR6.cell 3).trans rfl
      have r4 := (hR6.cell 4).trans rfl
      have r5 := (hR6.cell 5).trans rfl
      have f0 := hR6.frozen 0
      have f1 := hR6.frozen 1
      have f2 := hR6.frozen 2
      have f3 := hR6.frozen 3
      have f4 := hR6.frozen 4
      have f5 := hR6.frozen 5
      go_wp2
      try simp only [Exit.inBlock, Exit.then]
      have hcf : Chg [g + 1] wr _ := (Chg.refl [g + 1] wr).sixK (g := g + 1) (by simp) (.int .u64 kr.hard.term) (.int .i64 kr.hard.vote) (.int .u64 kr.snap.index) (.int .u64 kr.snap.term) (.slice As kr.snap.state.length cs) (.slice Ae kr.ents.length ce)
      refine bodyPost_ret (results_cell_row rfl _ _ (g + 1) 33 #[.int .u64 kr.hard.term, .int .i64 kr.hard.vote, .int .u64 kr.snap.index, .int .u64 kr.snap.term, .slice As kr.snap.state.length cs, .slice Ae kr.ents.length ce] (0, 0) _ rfl (Blk.sixK hR6 _ _ _ _ _ _) Try.underlying33 rfl (by kernel_rfl)) rfl ?_
      have hin : ∀ j, j ∈ [g + 1] → j < wr.heap.size → XK X g j := fun j hj _ => by have := List.mem_singleton.1 hj; exact .inr ⟨by omega, by omega⟩
      exact ⟨As, cs, Ae, ce, rfl, (hFs.chg hcf hin).mono (fun j _ h => .inl h), (hFe.chg hcf hin).mono (fun j _ h => .inl h), ((hxw.then_ hxr (by simp; omega)).then_ hcf (by simp; omega))⟩
end Go.Proofs.Ytboncnlcomeahaa

/- Stores: a disk that lives and is whole, in plain Lean. -/
namespace Go.Proofs.Ytboncnlcomeahaa
set_option linter.unusedVariables false
set_option linter.unusedSimpArgs false
set_option linter.unnecessarySimpa false
set_option maxRecDepth 100000
open Go.RowKit
/-- what is known keeps votes and terms that may be -/
structure Kp.good (k : Kp) : Prop where
  v0 : 0 ≤ k.hard.vote
  v1 : k.hard.vote ≤ 7
  es : ∀ e ∈ k.ents, 0 ≤ e.term ∧ e.term ≤ 18446744073709551615
theorem Kp0.good_ : Kp0.good := ⟨by simp [Kp0, Hd0], by simp [Kp0, Hd0], by simp [Kp0]⟩
theorem ksnapE_mem {k : Kp} {s : Sn} {e : En} (h : e ∈ ksnapE k s) : e ∈ k.ents := by
  unfold ksnapE at h
  split at h
  · exact List.mem_of_mem_drop h
  · cases h
theorem Kp.good.one {k : Kp} (h : k.good) {r : Rec} (hr : r.wide) (hm : may r = true) : (kone k r).good := by
  unfold kone
  split
  · rename_i h1
    unfold may at hm
    rw [if_pos h1] at hm
    simp only [Bool.and_eq_true, decide_eq_true_eq] at hm
    exact ⟨hm.1, hm.2, h.es⟩
  · split
    · refine ⟨h.v0, h.v1, fun e he => ?_⟩
      rcases List.mem_append.1 he with he | he
      · exact h.es e he
      · rw [List.mem_singleton.1 he]
        exact ⟨hr.e0, hr.e1⟩
    · split
      · exact ⟨h.v0, h.v1, fun e he => h.es e (List.mem_of_mem_take he)⟩
      · split
        · unfold ksnap
          split
          · exact h
          · exact ⟨h.v0, h.v1, fun e he => h.es e (ksnapE_mem he)⟩
        · exact h
theorem Kp.good.fold : ∀ (l : List Rec) {k : Kp}, k.good → (∀ r ∈ l, r.wide ∧ may r = true) → (kfold k l).good
  | [], _, h, _ => h
  | r :: l, _, h, hr => Kp.good.fold l (h.one (hr r List.mem_cons_self).1 (hr r List.mem_cons_self).2) fun q hq => hr q (List.mem_cons_of_mem _ hq)
theorem kone_fixr (k : Kp) (r : Rec) : kone k (fixr r) = kone k r := by
  unfold fixr
  split
  · rename_i h; simp [kone, h]
  · split
    · rename_i h; simp [kone, h]
    · split
      · rename_i h; simp [kone, h]
      · split
        · rename_i h; simp [kone, h]
        · rename_i h1 h2 h3 h4; simp [kone, h1, h2, h3, h4]
theorem kfold_right : ∀ (l : List Rec) (k : Kp), (∀ r ∈ l, may r = true) → kfold k (right l) = kfold k l
  | [], _, _ => rfl
  | r :: l, k, h => by
    unfold right
    rw [if_pos (h r List.mem_cons_self), kfold_cons, kfold_cons, kone_fixr]
    exact kfold_right l _ fun q hq => h q (List.mem_cons_of_mem _ hq)
theorem krecs_may {k : Kp} (h : k.good) : ∀ r ∈ krecs k, may r = true := by
  intro r hr
  unfold krecs at hr
  rcases List.mem_cons.1 hr with rfl | hr
  · simp [may, rHard, h.v0, h.v1]
  · rcases List.mem_append.1 hr with hr | hr
    · split at hr
      · cases hr
      · rw [List.mem_singleton.1 hr]; simp [may, rSnap]
    · obtain ⟨e, -, rfl⟩ := List.mem_map.1 hr
      simp [may, rEnt]
/-- a disk that lives, whole, of at most n records, that come to k -/
def Dk.whole (d : Dk) (k : Kp) (n : Nat) : Prop := ∃ m : List Rec, d.live (lput m) ∧ (∀ r ∈ m, (r.wide ∧ r.small) ∧ may r = true) ∧ m.length ≤ n ∧ kfold Kp0 m = k
theorem whole_new : Dk.new.whole Kp0 0 := ⟨[], live_new, by simp, Nat.le_refl _, rfl⟩
theorem Dk.whole.kp {d : Dk} {k : Kp} {n : Nat} (h : d.whole k n) : k.sound ∧ k.wide ∧ k.small n ∧ k.good := by
  obtain ⟨m, -, h2, h3, rfl⟩ := h
  exact ⟨Kp.sound.fold m Kp0.sound_, Kp.wide.fold m Kp0.wide_ fun r hr => (h2 r hr).1.1, (Kp.small.fold m Kp0.small_ fun r hr => (h2 r hr).1.2).mono (by omega), Kp.good.fold m Kp0.good_ fun r hr => ⟨(h2 r hr).1.1, (h2 r hr).2⟩⟩
theorem Dk.whole.open_ {d : Dk} {k : Kp} {n : Nat} (h : d.whole k n) : openD d = (d, 0) ∧ kfold Kp0 (scan d.b).1 = k ∧ (∀ r ∈ (scan d.b).1, r.small) ∧ (scan d.b).1.length ≤ n ∧ d.b.length ≤ 85 * n ∧ d.de = false ∧ d.sy = d.b.length := by
  obtain ⟨m, h1, h2, h3, rfl⟩ := h
  obtain ⟨h4, h5⟩ := h1.open_ fun r hr => (h2 r hr).1
  have h6 := lput_len (l := m) fun r hr => (h2 r hr).1.2
  refine ⟨h4, by rw [h5]; exact kfold_right m _ fun r hr => (h2 r hr).2, ?_, ?_, by rw [h1.b]; omega, h1.de, by rw [h1.sy, h1.b]⟩
  · rw [h5]
    exact fun r hr => (right_mem (fun r hr => (h2 r hr).1) r hr).2.2.2
  · rw [h5]
    exact Nat.le_trans (right_len m) h3
theorem Dk.whole.save_ {d : Dk} {k : Kp} {n : Nat} (h : d.whole k n) {l : List Rec} (hl : ∀ r ∈ l, (r.wide ∧ r.small) ∧ may r = true) (hn : n + l.length ≤ 1000) :
    (save d k l).2 = (kfold k l, 0) ∧ (save d k l).1.whole (kfold k l) (n + l.length + 2) := by
  have hk := h.kp
  obtain ⟨m, h1, h2, h3, h4⟩ := h
  have h6 := lput_len (l := m) fun r hr => (h2 r hr).1.2
  have h7 := lput_len (l := l) fun r hr => (hl r hr).1.2
  by_cases hne : l = []
  · subst hne
    have : save d k [] = (d, k, 0) := by unfold save; rw [if_pos rfl]
    rw [this]
    exact ⟨rfl, m, h1, h2, by omega, h4⟩
  · by_cases hs : l.any isSnap = true
    · have gk := Kp.good.fold l hk.2.2.2 fun r hr => ⟨(hl r hr).1.1, (hl r hr).2⟩
      have sk := Kp.sound.fold l hk.1
      have wk := Kp.wide.fold l hk.2.1 fun r hr => (hl r hr).1.1
      have mk := Kp.small.fold l hk.2.2.1 fun r hr => (hl r hr).1.2
      have hr := krecs_small mk wk gk.es
      have h8 := lput_len fun r h => (hr.1 r h).2
      have h9 := hr.2
      obtain ⟨e1, e2⟩ := save_snap (k := k) h1 hs (by omega)
      exact ⟨e1, _, e2, fun r h => ⟨hr.1 r h, krecs_may gk r h⟩, h9, kfold_recs sk⟩
    · obtain ⟨e1, e2⟩ := save_live (k := k) h1 hne (by simpa using hs) (by omega)
      rw [← lput_app] at e2
      refine ⟨e1, _, e2, fun r hr => ?_, by simp; omega, by rw [kfold_app, h4]⟩
      rcases List.mem_append.1 hr with hr | hr
      · exact h2 r hr
      · exact hl r hr
end Go.Proofs.Ytboncnlcomeahaa

/- Stores on a disk that may be armed, in plain Lean: a saving goes through, or the disk dies, and behind it lie the first ones of its records. -/
namespace Go.Proofs.Ytboncnlcomeahaa
set_option linter.unusedVariables false
set_option linter.unusedSimpArgs false
set_option linter.unnecessarySimpa false
set_option maxRecDepth 100000
open Go.RowKit
/-- a disk that lives, armed or not, whole, of at most n records, that come to k -/
def Dk.aw (d : Dk) (k : Kp) (n : Nat) : Prop := ∃ m : List Rec, d.b = lput m ∧ d.sy = (lput m).length ∧ d.de = false ∧ (∀ r ∈ m, (r.wide ∧ r.small) ∧ may r = true) ∧ m.length ≤ n ∧ kfold Kp0 m = k
/-- a dead disk: behind what came to k some bytes of l -/
def Dk.half_ (d : Dk) (k : Kp) (l : List Rec) (n : Nat) : Prop := ∃ (m : List Rec) (p : Nat), d.b = lput m ++ (lput l).take p ∧ d.sy = (lput m).length ∧ d.de = true ∧ d.ar = false ∧ (∀ r ∈ m, (r.wide ∧ r.small) ∧ may r = true) ∧ m.length ≤ n ∧ kfold Kp0 m = k
theorem Dk.whole.aw {d : Dk} {k : Kp} {n : Nat} (h : d.whole k n) : d.aw k n := by
  obtain ⟨m, h1, h2, h3, h4⟩ := h
  exact ⟨m, h1.b, by rw [h1.sy], h1.de, h2, h3, h4⟩
theorem Dk.aw.arm {d : Dk} {k : Kp} {n : Nat} (h : d.aw k n) (a p : Int) : (d.arm a p).aw k n := h
theorem Dk.aw.mono {d : Dk} {k : Kp} {n n' : Nat} (h : d.aw k n) (hn : n ≤ n') : d.aw k n' := by
  obtain ⟨m, h1, h2, h3, h4, h5, h6⟩ := h
  exact ⟨m, h1, h2, h3, h4, by omega, h6⟩
theorem Dk.half_.mono {d : Dk} {k : Kp} {l : List Rec} {n n' : Nat} (h : d.half_ k l n) (hn : n ≤ n') : d.half_ k l n' := by
  obtain ⟨m, p, h1, h2, h3, h4, h5, h6, h7⟩ := h
  exact ⟨m, p, h1, h2, h3, h4, h5, by omega, h7⟩
theorem Dk.aw.kp {d : Dk} {k : Kp} {n : Nat} (h : d.aw k n) : k.sound ∧ k.wide ∧ k.small n ∧ k.good := by
  obtain ⟨m, -, -, -, h2, h3, rfl⟩ := h
  exact ⟨Kp.sound.fold m Kp0.sound_, Kp.wide.fold m Kp0.wide_ fun r hr => (h2 r hr).1.1, (Kp.small.fold m Kp0.small_ fun r hr => (h2 r hr).1.2).mono (by omega), Kp.good.fold m Kp0.good_ fun r hr => ⟨(h2 r hr).1.1, (h2 r hr).2⟩⟩
theorem cut_app (a c : Bytes) (d : Dk) (p : Int) (hb : d.b = a ++ c) (hs : d.sy = a.length) : ∃ q : Nat, (d.cut p).b = a ++ c.take q := by
  unfold Dk.cut Dk.left
  simp only
  rw [hb, hs, List.length_append]
  refine ⟨((a.length : Int) + max 0 (min p (((a.length + c.length : Nat) : Int) - a.length))).toNat - a.length, ?_⟩
  rw [List.take_append]
  congr 1
  exact List.take_of_length_le (by omega)
theorem Dk.aw.crash {d : Dk} {k : Kp} {n : Nat} (h : d.aw k n) (l : List Rec) (p : Int) : (d.crash p).half_ k l n := by
  obtain ⟨m, h1, h2, h3, h4, h5, h6⟩ := h
  obtain ⟨q, hq⟩ := cut_app (lput m) [] d p (by rw [h1]; simp) h2
  exact ⟨m, 0, by show (d.cut p).b = _; rw [hq]; simp, h2, rfl, rfl, h4, h5, h6⟩
theorem Dk.half_.crash {d : Dk} {k : Kp} {l : List Rec} {n : Nat} (h : d.half_ k l n) (p : Int) : (d.crash p).half_ k l n := by
  obtain ⟨m, p0, h1, h2, h3, h4, h5, h6, h7⟩ := h
  obtain ⟨q, hq⟩ := cut_app (lput m) ((lput l).take p0) d p h1 h2
  exact ⟨m, min q p0, by show (d.cut p).b = _; rw [hq, List.take_take], h2, rfl, rfl, h5, h6, h7⟩
theorem right_all : ∀ {l : List Rec}, (∀ r ∈ l, may r = true) → right l = l.map fixr
  | [], _ => rfl
  | r :: l, h => by
    unfold right
    rw [if_pos (h r List.mem_cons_self), List.map_cons, right_all fun q hq => h q (List.mem_cons_of_mem _ hq)]
theorem take_right {l : List Rec} (h : ∀ r ∈ l, may r = true) (j : Nat) : (right l).take j = right (l.take j) := by
  rw [right_all h, right_all fun r hr => h r (List.mem_of_mem_take hr), List.map_take]
/-- behind power -/
theorem Dk.half_.open_ {d : Dk} {k : Kp} {l : List Rec} {n : Nat} (h : d.half_ k l n) (hl : ∀ r ∈ l, (r.wide ∧ r.small) ∧ may r = true) (hn : n + l.length ≤ 900) :
    ∃ j, j ≤ l.length ∧ (openD d.power).2 = 0 ∧ (openD d.power).1.whole (kfold k (l.take j)) (n + l.length) ∧ kfold Kp0 (scan d.power.b).1 = kfold k (l.take j) ∧ (∀ r ∈ (scan d.power.b).1, r.small) ∧ (scan d.power.b).1.length ≤ n + l.length ∧ d.power.b.length ≤ 85 * (n + l.length) ∧ d.power.de = false := by
  obtain ⟨m, p, h1, h2, h3, h4, h5, h6, h7⟩ := h
  have hok : ∀ r ∈ m, r.wide ∧ r.small := fun r hr => (h5 r hr).1
  have hokl : ∀ r ∈ l, r.wide ∧ r.small := fun r hr => (hl r hr).1
  have e6 := lput_len (l := m) fun r hr => (h5 r hr).1.2
  have e7 := lput_len (l := l) fun r hr => (hl r hr).1.2
  obtain ⟨j, hj, hs1, hs2, hs3, -⟩ := scan_cut l (min p (lput l).length) hokl (by omega)
  have htk : (lput l).take (min p (lput l).length) = (lput l).take p := by
    rcases Nat.le_total p (lput l).length with hp | hp
    · rw [Nat.min_eq_left hp]
    · rw [Nat.min_eq_right hp, List.take_length, List.take_of_length_le hp]
  rw [htk] at hs1 hs2 hs3
  rw [take_right fun r hr => (hl r hr).2] at hs1 hs3
  rw [right_put] at hs3
  have hrl := right_len l
  have hsc : scan (lput m ++ (lput l).take p) = (right m ++ right (l.take j), (lput m).length + (scan ((lput l).take p)).2) := by rw [scan_put m _ hok, hs1]
  have hf : kfold Kp0 (right m ++ right (l.take j)) = kfold k (l.take j) := by
    rw [kfold_app, kfold_right m _ fun r hr => (h5 r hr).2, h7, kfold_right _ _ fun r hr => (hl r (List.mem_of_mem_take hr)).2]
  have hjl : j ≤ l.length := by omega
  have hrj := right_len (l.take j)
  have hlt := List.length_take (i := j) (l := l)
  have hmm := right_mem hok
  have hmj := right_mem (l := l.take j) fun r hr => hokl r (List.mem_of_mem_take hr)
  have hal : ∀ r ∈ right m ++ right (l.take j), (r.wide ∧ r.small) ∧ may r = true := fun r hr => by
    rcases List.mem_append.1 hr with hr | hr
    · exact ⟨(hmm r hr).2.2, (hmm r hr).1⟩
    · exact ⟨(hmj r hr).2.2, (hmj r hr).1⟩
  have hrm := right_len m
  have hpb : d.power.b = lput m ++ (lput l).take p := h1
  have hln : (right m ++ right (l.take j)).length ≤ n + l.length := by rw [List.length_append]; omega
  have e8 := lput_len (l := right m ++ right (l.take j)) fun r hr => (hal r hr).1.2
  refine ⟨j, hjl, ?_⟩
  rw [hpb, hsc]
  refine ⟨?_, ?_, hf, fun r hr => (hal r hr).1.2, hln, by simp only [List.length_append, List.length_take]; omega, rfl⟩
  · unfold openD
    rw [hpb, hsc]
    simp only
    split
    · unfold Dk.op
      rw [if_neg (by simp [Dk.power]), if_neg (by omega), if_neg (by simp [Dk.power, h4])]
    · rfl
  · unfold openD
    rw [hpb, hsc]
    simp only
    split
    · unfold Dk.op
      rw [if_neg (by simp [Dk.power]), if_neg (by omega), if_neg (by simp [Dk.power, h4])]
      rw [if_neg (by simp [Dk.power, h4])]
      exact ⟨right m ++ right (l.take j), ⟨rfl, rfl, rfl, h4⟩, hal, hln, hf⟩
    · rename_i hge
      -- all of it is records
      have h9 : (lput l).take p = lput (l.take j) := by
        rw [hs3]
        simp only [List.length_append, List.length_take] at hge
        have h10 : (scan ((lput l).take p)).2 = min p (lput l).length := by omega
        rw [h10, htk]
      refine ⟨m ++ l.take j, ⟨?_, ?_, rfl, h4⟩, fun r hr => ?_, by simp; omega, by rw [kfold_app, h7]⟩
      · rw [hpb, h9, lput_app]
      · show ((d.b.length : Nat) : Int) = _
        rw [h1, h9, lput_app]
      · rcases List.mem_append.1 hr with hr | hr
        · exact h5 r hr
        · exact hl r (List.mem_of_mem_take hr)
theorem save_cases {d : Dk} {k : Kp} {n : Nat} (h : d.aw k n) {l : List Rec} (hl : ∀ r ∈ l, (r.wide ∧ r.small) ∧ may r = true) (hn : n + l.length ≤ 900) :
    ((save d k l).2 = (kfold k l, 0) ∧ (save d k l).1.aw (kfold k l) (n + l.length + 2)) ∨ ((save d k l).2 = (k, 16) ∧ (save d k l).1.half_ k l n) := by
  have hk := h.kp
  obtain ⟨m, h1, h2, h3, h4, h5, h6⟩ := h
  have e6 := lput_len (l := m) fun r hr => (h4 r hr).1.2
  have e7 := lput_len (l := l) fun r hr => (hl r hr).1.2
  by_cases hne : l = []
  · subst hne
    refine .inl ?_
    have : save d k [] = (d, k, 0) := by unfold save; rw [if_pos rfl]
    rw [this]
    exact ⟨rfl, m, h1, h2, h3, h4, by omega, h6⟩
  · unfold save
    rw [if_neg hne]
    by_cases hs : l.any isSnap = true
    · have gk := Kp.good.fold l hk.2.2.2 fun r hr => ⟨(hl r hr).1.1, (hl r hr).2⟩
      have sk := Kp.sound.fold l hk.1
      have wk := Kp.wide.fold l hk.2.1 fun r hr => (hl r hr).1.1
      have mk := Kp.small.fold l hk.2.2.1 fun r hr => (hl r hr).1.2
      have hr := krecs_small mk wk gk.es
      have h8 := lput_len fun r h => (hr.1 r h).2
      have h9 := hr.2
      unfold saveD
      rw [if_pos hs]
      unfold Dk.op
      rw [if_neg (by simp [h3]), if_neg (by omega)]
      by_cases ha : d.ar = true ∧ d.at_ = 0
      · rw [if_pos ha]
        refine .inr ⟨by simp, ?_⟩
        exact Dk.aw.crash ⟨m, h1, h2, h3, h4, h5, h6⟩ l _
      · rw [if_neg ha]
        refine .inl ⟨by simp, krecs (kfold k l), rfl, rfl, ?_, fun r h => ⟨hr.1 r h, krecs_may gk r h⟩, h9, kfold_recs sk⟩
        show (if d.ar = true then { d with at_ := d.at_ - 1 } else d).de = false
        split <;> exact h3
    · unfold saveD
      rw [if_neg hs]
      have hop : ∀ (e : Dk) (z : Int) (W : Dk → Dk), e.de = false → z ≤ 200000 → ∀ H : Dk → Dk, e.op z W H = ((H e).crash (H e).pt, 16) ∨ ∃ a : Int, e.op z W H = (W (if e.ar = true then { e with at_ := a } else e), 0) := by
        intro e z W he hz H
        unfold Dk.op
        rw [if_neg (by simp [he]), if_neg (by omega)]
        by_cases ha : e.ar = true ∧ e.at_ = 0
        · rw [if_pos ha]; exact .inl rfl
        · rw [if_neg ha]; exact .inr ⟨_, rfl⟩
      rcases hop d (d.b.length + (lput l).length) (Dk.app (lput l)) h3 (by rw [h1]; omega) (Dk.app (lput l)) with hA | ⟨a, hA⟩
      · rw [hA]
        rw [if_neg (by simp)]
        refine .inr ⟨by simp, ?_⟩
        obtain ⟨q, hq⟩ := cut_app (lput m) (lput l) (d.app (lput l)) (d.app (lput l)).pt (by show d.b ++ _ = _; rw [h1]) h2
        exact ⟨m, q, hq, h2, rfl, rfl, h4, h5, h6⟩
      · rw [hA]
        simp only [if_true]
        obtain ⟨d1, hd1⟩ : ∃ d1, Dk.app (lput l) (if d.ar = true then { d with at_ := a } else d) = d1 := ⟨_, rfl⟩
        have k1 : d1.b = lput m ++ lput l := by rw [← hd1]; unfold Dk.app; split <;> simp [h1]
        have k2 : d1.sy = (lput m).length := by rw [← hd1]; unfold Dk.app; split <;> simp [h2]
        have k3 : d1.de = false := by rw [← hd1]; unfold Dk.app; split <;> simp [h3]
        rw [hd1]
        rcases hop d1 0 Dk.last k3 (by omega) id with hB | ⟨b, hB⟩
        · rw [hB]
          refine .inr ⟨by simp, ?_⟩
          obtain ⟨q, hq⟩ := cut_app (lput m) (lput l) d1 d1.pt k1 k2
          exact ⟨m, q, hq, k2, rfl, rfl, h4, h5, h6⟩
        · rw [hB]
          refine .inl ⟨by simp, m ++ l, ?_, ?_, ?_, fun r hr => ?_, by simp; omega, by rw [kfold_app, h6]⟩
          · show (if d1.ar = true then { d1 with at_ := b } else d1).b = _
            rw [lput_app, ← k1]; split <;> rfl
          · show (((if d1.ar = true then { d1 with at_ := b } else d1).b.length : Nat) : Int) = _
            rw [lput_app, ← k1]; split <;> rfl
          · show (if d1.ar = true then { d1 with at_ := b } else d1).de = _
            split <;> exact k3
          · rcases List.mem_append.1 hr with hr | hr
            · exact h4 r hr
            · exact hl r hr
end Go.Proofs.Ytboncnlcomeahaa

/- The document's SameEntries, SameSnap, SameKept: true just of equal ones. -/
namespace Go.Proofs.Ytboncnlcomeahaa
set_option linter.unusedVariables false
set_option linter.unusedSimpArgs false
set_option linter.unnecessarySimpa false
set_option maxRecDepth 100000
open Go.RowKit
/-- the answer is whether p -/
def RetIs (p : Prop) (w w' : World) (e : Ending) : Prop := ∃ b : Bool, e = .returned (.bool b) ∧ Ext w w' ∧ Hid (b = true ↔ p)
theorem RetIs.yes {p : Prop} {w w' : World} (hx : Ext w w') (h : p) : RetIs p w w' (.returned (.bool true)) := ⟨true, rfl, hx, hide (by simp [h])⟩
theorem RetIs.no {p : Prop} {w w' : World} (hx : Ext w w') (h : ¬ p) : RetIs p w w' (.returned (.bool false)) := ⟨false, rfl, hx, hide (by simp [h])⟩
theorem sn_ext {s t : Sn} (h1 : s.index = t.index) (h2 : s.term = t.term) (h3 : s.state = t.state) : s = t := by cases s; cases t; simp_all
theorem en_ext {s t : En} (h1 : s.term = t.term) (h2 : s.data = t.data) : s = t := by cases s; cases t; simp_all
theorem kp_ext {s t : Kp} (h1 : s.hard = t.hard) (h2 : s.snap = t.snap) (h3 : s.ents = t.ents) : s = t := by cases s; cases t; simp_all
theorem hd_ext {s t : Hd} (h1 : s.term = t.term) (h2 : s.vote = t.vote) : s = t := by cases s; cases t; simp_all
set_option maxHeartbeats 3200000 in
theorem sameSnapG_b (s t : Sn) (v1 v2 : Value) (w : World) (h1 : Bs w v1 s.state) (h2 : Bs w v2 t.state) : Calls Try.prog 38 #[.agg (sncells s v1).toArray, .agg (sncells t v2).toArray] w fun e w' => RetIs (s = t) w w' e := by
  obtain ⟨A1, c1, rfl, -, -, -⟩ := id h1
  obtain ⟨A2, c2, rfl, -, -, -⟩ := id h2
  have hx : Ext w ((w.alloc (.cells (sncells s (.slice A1 s.state.length c1)).toArray 30)).alloc (.cells (sncells t (.slice A2 t.state.length c2)).toArray 30)) := ((Ext.rfl' w).alloc' _).alloc' _
  have hs1 := run_str (P := Try.prog) (h1.ext hx) Try.underlying28 Try.underlying5 Try.underlying9
  have hs2 := run_str (P := Try.prog) (h2.ext hx) Try.underlying28 Try.underlying5 Try.underlying9
  rcases Bool.eq_false_or_eq_true (s.index == t.index) with f1 | f1
  · rcases Bool.eq_false_or_eq_true (s.term == t.term) with f2 | f2
    · rcases Bool.eq_false_or_eq_true (s.state == t.state) with f3 | f3
      · have HE : Hid (s = t) := hide (sn_ext (by simpa using f1) (by simpa using f2) (by simpa using f3))
        go_enter Try.func38, Try.ntmps38
        go_wp2
        go_ret
        exact RetIs.yes hx HE.out
      · have HE : Hid (¬ s = t) := hide (fun h => by simp [h] at f3)
        go_enter Try.func38, Try.ntmps38
        go_wp2
        go_ret
        exact RetIs.no hx HE.out
    · have HE : Hid (¬ s = t) := hide (fun h => by simp [h] at f2)
      go_enter Try.func38, Try.ntmps38
      go_wp2
      go_ret
      exact RetIs.no hx HE.out
  · have HE : Hid (¬ s = t) := hide (fun h => by simp [h] at f1)
    go_enter Try.func38, Try.ntmps38
    go_wp2
    go_ret
    exact RetIs.no hx HE.out
set_option maxHeartbeats 6400000 in
theorem sameEntriesG_b (x y : Value) (l m : List En) (w : World) (hx : Enc.Sl enE w noneAt x l) (hy : Enc.Sl enE w noneAt y m) : Calls Try.prog 39 #[x, y] w fun e w' => RetIs (l = m) w w' e := by
  obtain ⟨A, c, rfl, k1, k2⟩ := hx.form
  obtain ⟨B, d, rfl, k3, k4⟩ := hy.form
  unfold maxLen at k2 k4
  by_cases hlen : l.length = m.length
  · have HL := hide hlen
    have fl : ((l.length : Int) == (m.length : Int)) = true := by simp [hlen]
    have fl2 : (l.length == m.length) = true := by simp [hlen]
    clear hlen
    go_enter Try.func39, Try.ntmps39
    go_wp2_with fail
    clear fl fl2
    go_loopw [5] (fun vi wr => ∃ k : Nat, (k : Int) ≤ l.length ∧ vi = .int .i64 k ∧ Hid (l.take k = m.take k) ∧ Ext w wr) (fun vi _ => (l.length - intOf vi).toNat)
    case atStart => exact ⟨0, by omega, rfl, hide (by simp), Ext.rfl' _⟩
    case round =>
      obtain ⟨k, hk, rfl, hsm, hxr⟩ := hrel
      by_cases hlt : (k : Int) < l.length
      · have HLT := hide hlt
        obtain ⟨ad, e, v1, rfl, he, hb, p0, p1, -, r1⟩ := en_at (hx.ext hxr) (k := k) (by omega)
        obtain ⟨ad2, e2, v2, rfl, he2, hb2, q0_, q1_, -, r2⟩ := en_at (hy.ext hxr) (k := k) (by rw [← HL.out]; omega)
        obtain ⟨A1, c1, rfl, -, -, -⟩ := id r1.1
        obtain ⟨A2, c2, rfl, -, -, -⟩ := id r2.1
        have hab : (ad.add (k * 2)).block < wr.heap.size := by rw [block_of_add]; exact hb
        have hab2 : (ad2.add (k * 2)).block < wr.heap.size := by rw [block_of_add]; exact hb2
        have hb1 : (0 : Int) ≤ k := by omega
        have hb2' : (k : Int) < l.length := hlt
        have hb3' : (k : Int) < m.length := by rw [← HL.out]; exact hlt
        have r1' := r1.1
        have r2' := r2.1
        have hne : Hid (¬ e = e2 → ¬ l = m) := hide (fun h hlm => h (by subst hlm; exact Option.some.inj (he.out.symm.trans he2.out)))
        rcases Bool.eq_false_or_eq_true (e.term == e2.term) with g1 | g1
        · rcases Bool.eq_false_or_eq_true (e.data == e2.data) with g2 | g2
          · have HE : Hid (e = e2) := hide (en_ext (by simpa using g1) (by simpa using g2))
            go_upto_region 6 with fail
            refine Rg.regionT Try.checked.mixed 43 26 (by kernel_rfl) [
              (fun x_ _ => x_ = .slice (some ad) l.length c),
              (fun x_ _ => x_ = .int .i64 k),
              (fun x_ _ => x_ = .pointer (some (ad.add (k * 2)))),
              (fun x_ _ => x_ = .pointer (some (ad.add (k * 2)))),
              (fun x_ _ => x_ = .int .u64 e.term),
              (fun x_ _ => x_ = .slice (some ad2) m.length d),
              (fun x_ _ => x_ = .int .i64 k),
              (fun x_ _ => x_ = .pointer (some (ad2.add (k * 2)))),
              (fun x_ _ => x_ = .pointer (some (ad2.add (k * 2)))),
              (fun x_ _ => x_ = .int .u64 e2.term),
              (fun x_ _ => x_ = .bool false),
              (fun x_ _ => x_ = .bool false),
              (fun x_ _ => x_ = .slice (some ad) l.length c),
              (fun x_ _ => x_ = .int .i64 k),
              (fun x_ _ => x_ = .pointer (some (ad.add (k * 2)))),
              (fun x_ _ => x_ = .pointer (some ⟨(ad.add (k * 2)).block, (ad.add (k * 2)).off + 1, none⟩)),
              (fun x_ _ => x_ = .slice A1 e.data.length c1),
              (fun x_ _ => x_ = str e.data),
              (fun x_ _ => x_ = .slice (some ad2) m.length d),
              (fun x_ _ => x_ = .int .i64 k),
              (fun x_ _ => x_ = .pointer (some (ad2.add (k * 2)))),
              (fun x_ _ => x_ = .pointer (some ⟨(ad2.add (k * 2)).block, (ad2.add (k * 2)).off + 1, none⟩)),
              (fun x_ _ => x_ = .slice A2 e2.data.length c2),
              (fun x_ _ => x_ = str e2.data),
              (fun x_ _ => x_ = .bool false),
              (fun x_ _ => x_ = .bool false)] (fun W => Ext wr W) Ext rfl rfl rfl
              ?st ((Ext.rfl' wr).drew') ?ob ?en
            case st => exact ⟨fun _ _ _ h _ => h, fun _ _ _ h _ => h, fun _ _ _ h _ => h, fun _ _ _ h _ => h, fun _ _ _ h _ => h, fun _ _ _ h _ => h, fun _ _ _ h _ => h, fun _ _ _ h _ => h, fun _ _ _ h _ => h, fun _ _ _ h _ => h, fun _ _ _ h _ => h, fun _ _ _ h _ => h, fun _ _ _ h _ => h, fun _ _ _ h _ => h, fun _ _ _ h _ => h, fun _ _ _ h _ => h, fun _ _ _ h _ => h, fun _ _ _ h _ => h, fun _ _ _ h _ => h, fun _ _ _ h _ => h, fun _ _ _ h _ => h, fun _ _ _ h _ => h, fun _ _ _ h _ => h, fun _ _ _ h _ => h, fun _ _ _ h _ => h, fun _ _ _ h _ => h, trivial⟩
            case ob =>
              refine ⟨Rg.at_run [0] rfl ?_, ?_⟩
              · intro ρ W hR ⟨q0, _⟩
                replace q0 : ρ 0 = .slice (some ad) l.length c := q0
                refine ⟨rfl, ?_⟩
                exact Rg.run_ok (v := .slice (some ad) l.length c) (by simp [execOp, Rg.ev, go_sem, q0]) ⟨rfl, hR, Ext.rfl' _⟩
              refine ⟨Rg.at_run [5] rfl ?_, ?_⟩
              · intro ρ W hR ⟨q5, _⟩
                replace q5 : ρ 5 = .int .i64 k := q5
                refine ⟨rfl, ?_⟩
                exact Rg.run_ok (v := .int .i64 k) (by simp [execOp, Rg.ev, go_sem, q5]) ⟨rfl, hR, Ext.rfl' _⟩
              refine ⟨Rg.at_run [17, 18] rfl ?_, ?_⟩
              · intro ρ W hR ⟨q17, q18, _⟩
                replace q17 : ρ 17 = .slice (some ad) l.length c := q17
                replace q18 : ρ 18 = .int .i64 k := q18
                refine ⟨rfl, ?_⟩
                exact Rg.run_ok (v := .pointer (some (ad.add (k * 2)))) (by simp [execOp, Rg.ev, go_sem, q17, q18, hb1, hb2']) ⟨rfl, hR, Ext.rfl' _⟩
              refine ⟨Rg.at_run [19] rfl ?_, ?_⟩
              · intro ρ W hR ⟨q19, _⟩
                replace q19 : ρ 19 = .pointer (some (ad.add (k * 2))) := q19
                refine ⟨rfl, ?_⟩
                exact Rg.run_ok (v := .pointer (some (ad.add (k * 2)))) (by simp [execOp, Rg.ev, go_sem, q19]) ⟨rfl, hR, Ext.rfl' _⟩
              refine ⟨Rg.at_run [20] rfl ?_, ?_⟩
              · intro ρ W hR ⟨q20, _⟩
                replace q20 : ρ 20 = .pointer (some (ad.add (k * 2))) := q20
                refine ⟨rfl, ?_⟩
                have c_ : W.cell? (ad.add (k * 2)) = some (.int .u64 e.term) := (hR.cell (p := ad.add (k * 2)) hab).trans p0
                exact Rg.run_ok (v := .int .u64 e.term) (by simp [execOp, Rg.ev, go_sem, q20, c_]) ⟨rfl, hR, Ext.rfl' _⟩
              refine ⟨Rg.at_run [1] rfl ?_, ?_⟩
              · intro ρ W hR ⟨q1, _⟩
                replace q1 : ρ 1 = .slice (some ad2) m.length d := q1
                refine ⟨rfl, ?_⟩
                exact Rg.run_ok (v := .slice (some ad2) m.length d) (by simp [execOp, Rg.ev, go_sem, q1]) ⟨rfl, hR, Ext.rfl' _⟩
              refine ⟨Rg.at_run [5] rfl ?_, ?_⟩
              · intro ρ W hR ⟨q5, _⟩
                replace q5 : ρ 5 = .int .i64 k := q5
                refine ⟨rfl, ?_⟩
                exact Rg.run_ok (v := .int .i64 k) (by simp [execOp, Rg.ev, go_sem, q5]) ⟨rfl, hR, Ext.rfl' _⟩
              refine ⟨Rg.at_run [22, 23] rfl ?_, ?_⟩
              · intro ρ W hR ⟨q22, q23, _⟩
                replace q22 : ρ 22 = .slice (some ad2) m.length d := q22
                replace q23 : ρ 23 = .int .i64 k := q23
                refine ⟨rfl, ?_⟩
                exact Rg.run_ok (v := .pointer (some (ad2.add (k * 2)))) (by simp [execOp, Rg.ev, go_sem, q22, q23, hb1, hb3']) ⟨rfl, hR, Ext.rfl' _⟩
              refine ⟨Rg.at_run [24] rfl ?_, ?_⟩
              · intro ρ W hR ⟨q24, _⟩
                replace q24 : ρ 24 = .pointer (some (ad2.add (k * 2))) := q24
                refine ⟨rfl, ?_⟩
                exact Rg.run_ok (v := .pointer (some (ad2.add (k * 2)))) (by simp [execOp, Rg.ev, go_sem, q24]) ⟨rfl, hR, Ext.rfl' _⟩
              refine ⟨Rg.at_run [25] rfl ?_, ?_⟩
              · intro ρ W hR ⟨q25, _⟩
                replace q25 : ρ 25 = .pointer (some (ad2.add (k * 2))) := q25
                refine ⟨rfl, ?_⟩
                have c_ : W.cell? (ad2.add (k * 2)) = some (.int .u64 e2.term) := (hR.cell (p := ad2.add (k * 2)) hab2).trans q0_
                exact Rg.run_ok (v := .int .u64 e2.term) (by simp [execOp, Rg.ev, go_sem, q25, c_]) ⟨rfl, hR, Ext.rfl' _⟩
              refine ⟨Rg.at_run [21, 26] rfl ?_, ?_⟩
              · intro ρ W hR ⟨q21, q26, _⟩
                replace q21 : ρ 21 = .int .u64 e.term := q21
                replace q26 : ρ 26 = .int .u64 e2.term := q26
                refine ⟨rfl, ?_⟩
                have g1_ := g1
                simp only [beq_iff_eq, beq_eq_false_iff_ne, ne_eq] at g1_
                exact Rg.run_ok (v := .bool false) (by simp [execOp, Rg.ev, go_sem, q21, q26, g1_]) ⟨rfl, hR, Ext.rfl' _⟩
              refine ⟨Rg.at_run [27] rfl ?_, ?_⟩
              · intro ρ W hR ⟨q27, _⟩
                replace q27 : ρ 27 = .bool false := q27
                refine ⟨rfl, ?_⟩
                exact Rg.run_ok (v := .bool false) (by simp [execOp, Rg.ev, go_sem, q27]) ⟨rfl, hR, Ext.rfl' _⟩
              refine ⟨Rg.at_run [0, 28] rfl ?_, ?_⟩
              · intro ρ W hR ⟨q0, q28, _⟩
                replace q0 : ρ 0 = .slice (some ad) l.length c := q0
                replace q28 : ρ 28 = .bool false := q28
                refine ⟨by simp [Rg.wants, q28], ?_⟩
                exact Rg.run_ok (v := .slice (some ad) l.length c) (by simp [execOp, Rg.ev, go_sem, q0]) ⟨rfl, hR, Ext.rfl' _⟩
              refine ⟨Rg.at_run [5, 28] rfl ?_, ?_⟩
              · intro ρ W hR ⟨q5, q28, _⟩
                replace q5 : ρ 5 = .int .i64 k := q5
                replace q28 : ρ 28 = .bool false := q28
                refine ⟨by simp [Rg.wants, q28], ?_⟩
                exact Rg.run_ok (v := .int .i64 k) (by simp [execOp, Rg.ev, go_sem, q5]) ⟨rfl, hR, Ext.rfl' _⟩
              refine ⟨Rg.at_run [29, 30, 28] rfl ?_, ?_⟩
              · intro ρ W hR ⟨q29, q30, q28, _⟩
                replace q29 : ρ 29 = .slice (some ad) l.length c := q29
                replace q30 : ρ 30 = .int .i64 k := q30
                replace q28 : ρ 28 = .bool false := q28
                refine ⟨by simp [Rg.wants, q28], ?_⟩
                exact Rg.run_ok (v := .pointer (some (ad.add (k * 2)))) (by simp [execOp, Rg.ev, go_sem, q29, q30, hb1, hb2']) ⟨rfl, hR, Ext.rfl' _⟩
              refine ⟨Rg.at_run [31, 28] rfl ?_, ?_⟩
              · intro ρ W hR ⟨q31, q28, _⟩
                replace q31 : ρ 31 = .pointer (some (ad.add (k * 2))) := q31
                replace q28 : ρ 28 = .bool false := q28
                refine ⟨by simp [Rg.wants, q28], ?_⟩
                exact Rg.run_ok (v := .pointer (some ⟨(ad.add (k * 2)).block, (ad.add (k * 2)).off + 1, none⟩)) (by simp [execOp, Rg.ev, go_sem, q31]) ⟨rfl, hR, Ext.rfl' _⟩
              refine ⟨Rg.at_run [32, 28] rfl ?_, ?_⟩
              · intro ρ W hR ⟨q32, q28, _⟩
                replace q32 : ρ 32 = .pointer (some ⟨(ad.add (k * 2)).block, (ad.add (k * 2)).off + 1, none⟩) := q32
                replace q28 : ρ 28 = .bool false := q28
                refine ⟨by simp [Rg.wants, q28], ?_⟩
                have c_ : W.cell? (⟨(ad.add (k * 2)).block, (ad.add (k * 2)).off + 1, none⟩) = some (.slice A1 e.data.length c1) := (hR.cell (p := ⟨(ad.add (k * 2)).block, (ad.add (k * 2)).off + 1, none⟩) hab).trans p1
                exact Rg.run_ok (v := .slice A1 e.data.length c1) (by simp [execOp, Rg.ev, go_sem, q32, c_]) ⟨rfl, hR, Ext.rfl' _⟩
              refine ⟨Rg.at_run [33, 28] rfl ?_, ?_⟩
              · intro ρ W hR ⟨q33, q28, _⟩
                replace q33 : ρ 33 = .slice A1 e.data.length c1 := q33
                replace q28 : ρ 28 = .bool false := q28
                refine ⟨by simp [Rg.wants, q28], ?_⟩
                have hs := run_str (P := Try.prog) (r1'.ext hR) Try.underlying28 Try.underlying5 Try.underlying9
                exact Rg.run_ok (v := str e.data) (by simp only [execOp, Rg.ev, Sem.run_bind, Sem.run_pure, Result.andThen_ok, q33, hs]) ⟨rfl, hR, Ext.rfl' _⟩
              refine ⟨Rg.at_run [1, 28] rfl ?_, ?_⟩
              · intro ρ W hR ⟨q1, q28, _⟩
                replace q1 : ρ 1 = .slice (some ad2) m.length d := q1
                replace q28 : ρ 28 = .bool false := q28
                refine ⟨by simp [Rg.wants, q28], ?_⟩
                exact Rg.run_ok (v := .slice (some ad2) m.length d) (by simp [execOp, Rg.ev, go_sem, q1]) ⟨rfl, hR, Ext.rfl' _⟩
              refine ⟨Rg.at_run [5, 28] rfl ?_, ?_⟩
              · intro ρ W hR ⟨q5, q28, _⟩
                replace q5 : ρ 5 = .int .i64 k := q5
                replace q28 : ρ 28 = .bool false := q28
                refine ⟨by simp [Rg.wants, q28], ?_⟩
                exact Rg.run_ok (v := .int .i64 k) (by simp [execOp, Rg.ev, go_sem, q5]) ⟨rfl, hR, Ext.rfl' _⟩
              refine ⟨Rg.at_run [35, 36, 28] rfl ?_, ?_⟩
              · intro ρ W hR ⟨q35, q36, q28, _⟩
                replace q35 : ρ 35 = .slice (some ad2) m.length d := q35
                replace q36 : ρ 36 = .int .i64 k := q36
                replace q28 : ρ 28 = .bool false := q28
                refine ⟨by simp [Rg.wants, q28], ?_⟩
                exact Rg.run_ok (v := .pointer (some (ad2.add (k * 2)))) (by simp [execOp, Rg.ev, go_sem, q35, q36, hb1, hb3']) ⟨rfl, hR, Ext.rfl' _⟩
              refine ⟨Rg.at_run [37, 28] rfl ?_, ?_⟩
              · intro ρ W hR ⟨q37, q28, _⟩
                replace q37 : ρ 37 = .pointer (some (ad2.add (k * 2))) := q37
                replace q28 : ρ 28 = .bool false := q28
                refine ⟨by simp [Rg.wants, q28], ?_⟩
                exact Rg.run_ok (v := .pointer (some ⟨(ad2.add (k * 2)).block, (ad2.add (k * 2)).off + 1, none⟩)) (by simp [execOp, Rg.ev, go_sem, q37]) ⟨rfl, hR, Ext.rfl' _⟩
              refine ⟨Rg.at_run [38, 28] rfl ?_, ?_⟩
              · intro ρ W hR ⟨q38, q28, _⟩
                replace q38 : ρ 38 = .pointer (some ⟨(ad2.add (k * 2)).block, (ad2.add (k * 2)).off + 1, none⟩) := q38
                replace q28 : ρ 28 = .bool false := q28
                refine ⟨by simp [Rg.wants, q28], ?_⟩
                have c_ : W.cell? (⟨(ad2.add (k * 2)).block, (ad2.add (k * 2)).off + 1, none⟩) = some (.slice A2 e2.data.length c2) := (hR.cell (p := ⟨(ad2.add (k * 2)).block, (ad2.add (k * 2)).off + 1, none⟩) hab2).trans q1_
                exact Rg.run_ok (v := .slice A2 e2.data.length c2) (by simp [execOp, Rg.ev, go_sem, q38, c_]) ⟨rfl, hR, Ext.rfl' _⟩
              refine ⟨Rg.at_run [39, 28] rfl ?_, ?_⟩
              · intro ρ W hR ⟨q39, q28, _⟩
                replace q39 : ρ 39 = .slice A2 e2.data.length c2 := q39
                replace q28 : ρ 28 = .bool false := q28
                refine ⟨by simp [Rg.wants, q28], ?_⟩
                have hs := run_str (P := Try.prog) (r2'.ext hR) Try.underlying28 Try.underlying5 Try.underlying9
                exact Rg.run_ok (v := str e2.data) (by simp only [execOp, Rg.ev, Sem.run_bind, Sem.run_pure, Result.andThen_ok, q39, hs]) ⟨rfl, hR, Ext.rfl' _⟩
              refine ⟨Rg.at_run [34, 40, 28] rfl ?_, ?_⟩
              · intro ρ W hR ⟨q34, q40, q28, _⟩
                replace q34 : ρ 34 = str e.data := q34
                replace q40 : ρ 40 = str e2.data := q40
                replace q28 : ρ 28 = .bool false := q28
                refine ⟨by simp [Rg.wants, q28], ?_⟩
                have g2_ := g2
                simp only [beq_iff_eq, beq_eq_false_iff_ne, ne_eq] at g2_
                exact Rg.run_ok (v := .bool false) (by simp [execOp, Rg.ev, go_sem, q34, q40, g2_]) ⟨rfl, hR, Ext.rfl' _⟩
              refine ⟨Rg.at_run [28, 41] rfl ?_, ?_⟩
              · intro ρ W hR ⟨q28, q41, _⟩
                replace q28 : ρ 28 = .bool false := q28
                replace q41 : ρ 41 = .bool false := q41
                refine ⟨rfl, ?_⟩
                exact Rg.run_ok (v := .bool false) (by simp [execOp, Rg.ev, go_sem, q28, q41]) ⟨rfl, hR, Ext.rfl' _⟩
              trivial
            case en =>
              intro tm W hR hsz hk
              rw [Rg.fin_eq (ds := [17, 18, 19, 20, 21, 22, 23, 24, 25, 26, 27, 28, 29, 30, 31, 32, 33, 34, 35, 36, 37, 38, 39, 40, 41, 42]) rfl rfl rfl hsz hk]
              have k17 : tm.getD 17 undef = .slice (some ad) l.length c := hk 17
              have k18 : tm.getD 18 undef = .int .i64 k := hk 18
              have k19 : tm.getD 19 undef = .pointer (some (ad.add (k * 2))) := hk 19
              have k20 : tm.getD 20 undef = .pointer (some (ad.add (k * 2))) := hk 20
              have k21 : tm.getD 21 undef = .int .u64 e.term := hk 21
              have k22 : tm.getD 22 undef = .slice (some ad2) m.length d := hk 22
              have k23 : tm.getD 23 undef = .int .i64 k := hk 23
              have k24 : tm.getD 24 undef = .pointer (some (ad2.add (k * 2))) := hk 24
              have k25 : tm.getD 25 undef = .pointer (some (ad2.add (k * 2))) := hk 25
              have k26 : tm.getD 26 undef = .int .u64 e2.term := hk 26
              have k27 : tm.getD 27 undef = .bool false := hk 27
              have k28 : tm.getD 28 undef = .bool false := hk 28
              have k29 : tm.getD 29 undef = .slice (some ad) l.length c := hk 29
              have k30 : tm.getD 30 undef = .int .i64 k := hk 30
              have k31 : tm.getD 31 undef = .pointer (some (ad.add (k * 2))) := hk 31
              have k32 : tm.getD 32 undef = .pointer (some ⟨(ad.add (k * 2)).block, (ad.add (k * 2)).off + 1, none⟩) := hk 32
              have k33 : tm.getD 33 undef = .slice A1 e.data.length c1 := hk 33
              have k34 : tm.getD 34 undef = str e.data := hk 34
              have k35 : tm.getD 35 undef = .slice (some ad2) m.length d := hk 35
              have k36 : tm.getD 36 undef = .int .i64 k := hk 36
              have k37 : tm.getD 37 undef = .pointer (some (ad2.add (k * 2))) := hk 37
              have k38 : tm.getD 38 undef = .pointer (some ⟨(ad2.add (k * 2)).block, (ad2.add (k * 2)).off + 1, none⟩) := hk 38
              have k39 : tm.getD 39 undef = .slice A2 e2.data.length c2 := hk 39
              have k40 : tm.getD 40 undef = str e2.data := hk 40
              have k41 : tm.getD 41 undef = .bool false := hk 41
              have k42 : tm.getD 42 undef = .bool false := hk 42
              clear hk hsz
              simp only [Rg.putAll, List.setIfInBounds_toArray, List.set_cons_zero, List.set_cons_succ, k17, k18, k19, k20, k21, k22, k23, k24, k25, k26, k27, k28, k29, k30, k31, k32, k33, k34, k35, k36, k37, k38, k39, k40, k41, k42]
              clear k17
              clear k18
              clear k19
              clear k20
              clear k21
              clear k22
              clear k23
              clear k24
              clear k25
              clear k26
              clear k27
              clear k28
              clear k29
              clear k30
              clear k31
              clear k32
              clear k33
              clear k34
              clear k35
              clear k36
              clear k37
              clear k38
              clear k39
              clear k40
              clear k41
              clear k42
              refine Rg.nil_list ?_
  
              go_wp2
              go_roundw
              case rel => exact ⟨k + 1, by have := HLT.out; omega, by go_num, hide (by rw [take_snoc he.out, take_snoc he2.out, hsm.out, HE.out]), hxr.trans' hR⟩
              case measure => have := HLT.out; simp [intOf]; omega
          · have HE : Hid (¬ e = e2) := hide (fun h => by simp [h] at g2)
            go_upto_region 6 with fail
            refine Rg.regionT Try.checked.mixed 43 26 (by kernel_rfl) [
              (fun x_ _ => x_ = .slice (some ad) l.length c),
              (fun x_ _ => x_ = .int .i64 k),
              (fun x_ _ => x_ = .pointer (some (ad.add (k * 2)))),
              (fun x_ _ => x_ = .pointer (some (ad.add (k * 2)))),
              (fun x_ _ => x_ = .int .u64 e.term),
              (fun x_ _ => x_ = .slice (some ad2) m.length d),
              (fun x_ _ => x_ = .int .i64 k),
              (fun x_ _ => x_ = .pointer (some (ad2.add (k * 2)))),
              (fun x_ _ => x_ = .pointer (some (ad2.add (k * 2)))),
              (fun x_ _ => x_ = .int .u64 e2.term),
              (fun x_ _ => x_ = .bool false),
              (fun x_ _ => x_ = .bool false),
              (fun x_ _ => x_ = .slice (some ad) l.length c),
              (fun x_ _ => x_ = .int .i64 k),
              (fun x_ _ => x_ = .pointer (some (ad.add (k * 2)))),
              (fun x_ _ => x_ = .pointer (some ⟨(ad.add (k * 2)).block, (ad.add (k * 2)).off + 1, none⟩)),
              (fun x_ _ => x_ = .slice A1 e.data.length c1),
              (fun x_ _ => x_ = str e.data),
              (fun x_ _ => x_ = .slice (some ad2) m.length d),
              (fun x_ _ => x_ = .int .i64 k),
              (fun x_ _ => x_ = .pointer (some (ad2.add (k * 2)))),
              (fun x_ _ => x_ = .pointer (some ⟨(ad2.add (k * 2)).block, (ad2.add (k * 2)).off + 1, none⟩)),
              (fun x_ _ => x_ = .slice A2 e2.data.length c2),
              (fun x_ _ => x_ = str e2.data),
              (fun x_ _ => x_ = .bool true),
              (fun x_ _ => x_ = .bool true)] (fun W => Ext wr W) Ext rfl rfl rfl
              ?st ((Ext.rfl' wr).drew') ?ob ?en
            case st => exact ⟨fun _ _ _ h _ => h, fun _ _ _ h _ => h, fun _ _ _ h _ => h, fun _ _ _ h _ => h, fun _ _ _ h _ => h, fun _ _ _ h _ => h, fun _ _ _ h _ => h, fun _ _ _ h _ => h, fun _ _ _ h _ => h, fun _ _ _ h _ => h, fun _ _ _ h _ => h, fun _ _ _ h _ => h, fun _ _ _ h _ => h, fun _ _ _ h _ => h, fun _ _ _ h _ => h, fun _ _ _ h _ => h, fun _ _ _ h _ => h, fun _ _ _ h _ => h, fun _ _ _ h _ => h, fun _ _ _ h _ => h, fun _ _ _ h _ => h, fun _ _ _ h _ => h, fun _ _ _ h _ => h, fun _ _ _ h _ => h, fun _ _ _ h _ => h, fun _ _ _ h _ => h, trivial⟩
            case ob =>
              refine ⟨Rg.at_run [0] rfl ?_, ?_⟩
              · intro ρ W hR ⟨q0, _⟩
                replace q0 : ρ 0 = .slice (some ad) l.length c := q0
                refine ⟨rfl, ?_⟩
                exact Rg.run_ok (v := .slice (some ad) l.length c) (by simp [execOp, Rg.ev, go_sem, q0]) ⟨rfl, hR, Ext.rfl' _⟩
              refine ⟨Rg.at_run [5] rfl ?_, ?_⟩
              · intro ρ W hR ⟨q5, _⟩
                replace q5 : ρ 5 = .int .i64 k := q5
                refine ⟨rfl, ?_⟩
                exact Rg.run_ok (v := .int .i64 k) (by simp [execOp, Rg.ev, go_sem, q5]) ⟨rfl, hR, Ext.rfl' _⟩
              refine ⟨Rg.at_run [17, 18] rfl ?_, ?_⟩
              · intro ρ W hR ⟨q17, q18, _⟩
                replace q17 : ρ 17 = .slice (some ad) l.length c := q17
                replace q18 : ρ 18 = .int .i64 k := q18
                refine ⟨rfl, ?_⟩
                exact Rg.run_ok (v := .pointer (some (ad.add (k * 2)))) (by simp [execOp, Rg.ev, go_sem, q17, q18, hb1, hb2']) ⟨rfl, hR, Ext.rfl' _⟩
              refine ⟨Rg.at_run [19] rfl ?_, ?_⟩
              · intro ρ W hR ⟨q19, _⟩
                replace q19 : ρ 19 = .pointer (some (ad.add (k * 2))) := q19
                refine ⟨rfl, ?_⟩
                exact Rg.run_ok (v := .pointer (some (ad.add (k * 2)))) (by simp [execOp, Rg.ev, go_sem, q19]) ⟨rfl, hR, Ext.rfl' _⟩
              refine ⟨Rg.at_run [20] rfl ?_, ?_⟩
              · intro ρ W hR ⟨q20, _⟩
                replace q20 : ρ 20 = .pointer (some (ad.add (k * 2))) := q20
                refine ⟨rfl, ?_⟩
                have c_ : W.cell? (ad.add (k * 2)) = some (.int .u64 e.term) := (hR.cell (p := ad.add (k * 2)) hab).trans p0
                exact Rg.run_ok (v := .int .u64 e.term) (by simp [execOp, Rg.ev, go_sem, q20, c_]) ⟨rfl, hR, Ext.rfl' _⟩
              refine ⟨Rg.at_run [1] rfl ?_, ?_⟩
              · intro ρ W hR ⟨q1, _⟩
                replace q1 : ρ 1 = .slice (some ad2) m.length d := q1
                refine ⟨rfl, ?_⟩
                exact Rg.run_ok (v := .slice (some ad2) m.length d) (by simp [execOp, Rg.ev, go_sem, q1]) ⟨rfl, hR, Ext.rfl' _⟩
              refine ⟨Rg.at_run [5] rfl ?_, ?_⟩
              · intro ρ W hR ⟨q5, _⟩
                replace q5 : ρ 5 = .int .i64 k := q5
                refine ⟨rfl, ?_⟩
                exact Rg.run_ok (v := .int .i64 k) (by simp [execOp, Rg.ev, go_sem, q5]) ⟨rfl, hR, Ext.rfl' _⟩
              refine ⟨Rg.at_run [22, 23] rfl ?_, ?_⟩
              · intro ρ W hR ⟨q22, q23, _⟩
                replace q22 : ρ 22 = .slice (some ad2) m.length d := q22
                replace q23 : ρ 23 = .int .i64 k := q23
                refine ⟨rfl, ?_⟩
                exact Rg.run_ok (v := .pointer (some (ad2.add (k * 2)))) (by simp [execOp, Rg.ev, go_sem, q22, q23, hb1, hb3']) ⟨rfl, hR, Ext.rfl' _⟩
              refine ⟨Rg.at_run [24] rfl ?_, ?_⟩
              · intro ρ W hR ⟨q24, _⟩
                replace q24 : ρ 24 = .pointer (some (ad2.add (k * 2))) := q24
                refine ⟨rfl, ?_⟩
                exact Rg.run_ok (v := .pointer (some (ad2.add (k * 2)))) (by simp [execOp, Rg.ev, go_sem, q24]) ⟨rfl, hR, Ext.rfl' _⟩
              refine ⟨Rg.at_run [25] rfl ?_, ?_⟩
              · intro ρ W hR ⟨q25, _⟩
                replace q25 : ρ 25 = .pointer (some (ad2.add (k * 2))) := q25
                refine ⟨rfl, ?_⟩
                have c_ : W.cell? (ad2.add (k * 2)) = some (.int .u64 e2.term) := (hR.cell (p := ad2.add (k * 2)) hab2).trans q0_
                exact Rg.run_ok (v := .int .u64 e2.term) (by simp [execOp, Rg.ev, go_sem, q25, c_]) ⟨rfl, hR, Ext.rfl' _⟩
              refine ⟨Rg.at_run [21, 26] rfl ?_, ?_⟩
              · intro ρ W hR ⟨q21, q26, _⟩
                replace q21 : ρ 21 = .int .u64 e.term := q21
                replace q26 : ρ 26 = .int .u64 e2.term := q26
                refine ⟨rfl, ?_⟩
                have g1_ := g1
                simp only [beq_iff_eq, beq_eq_false_iff_ne, ne_eq] at g1_
                exact Rg.run_ok (v := .bool false) (by simp [execOp, Rg.ev, go_sem, q21, q26, g1_]) ⟨rfl, hR, Ext.rfl' _⟩
              refine ⟨Rg.at_run [27] rfl ?_, ?_⟩
              · intro ρ W hR ⟨q27, _⟩
                replace q27 : ρ 27 = .bool false := q27
                refine ⟨rfl, ?_⟩
                exact Rg.run_ok (v := .bool false) (by simp [execOp, Rg.ev, go_sem, q27]) ⟨rfl, hR, Ext.rfl' _⟩
              refine ⟨Rg.at_run [0, 28] rfl ?_, ?_⟩
              · intro ρ W hR ⟨q0, q28, _⟩
                replace q0 : ρ 0 = .slice (some ad) l.length c := q0
                replace q28 : ρ 28 = .bool false := q28
                refine ⟨by simp [Rg.wants, q28], ?_⟩
                exact Rg.run_ok (v := .slice (some ad) l.length c) (by simp [execOp, Rg.ev, go_sem, q0]) ⟨rfl, hR, Ext.rfl' _⟩
              refine ⟨Rg.at_run [5, 28] rfl ?_, ?_⟩
              · intro ρ W hR ⟨q5, q28, _⟩
                replace q5 : ρ 5 = .int .i64 k := q5
                replace q28 : ρ 28 = .bool false := q28
                refine ⟨by simp [Rg.wants, q28], ?_⟩
                exact Rg.run_ok (v := .int .i64 k) (by simp [execOp, Rg.ev, go_sem, q5]) ⟨rfl, hR, Ext.rfl' _⟩
              refine ⟨Rg.at_run [29, 30, 28] rfl ?_, ?_⟩
              · intro ρ W hR ⟨q29, q30, q28, _⟩
                replace q29 : ρ 29 = .slice (some ad) l.length c := q29
                replace q30 : ρ 30 = .int .i64 k := q30
                replace q28 : ρ 28 = .bool false := q28
                refine ⟨by simp [Rg.wants, q28], ?_⟩
                exact Rg.run_ok (v := .pointer (some (ad.add (k * 2)))) (by simp [execOp, Rg.ev, go_sem, q29, q30, hb1, hb2']) ⟨rfl, hR, Ext.rfl' _⟩
              refine ⟨Rg.at_run [31, 28] rfl ?_, ?_⟩
              · intro ρ W hR ⟨q31, q28, _⟩
                replace q31 : ρ 31 = .pointer (some (ad.add (k * 2))) := q31
                replace q28 : ρ 28 = .bool false := q28
                refine ⟨by simp [Rg.wants, q28], ?_⟩
                exact Rg.run_ok (v := .pointer (some ⟨(ad.add (k * 2)).block, (ad.add (k * 2)).off + 1, none⟩)) (by simp [execOp, Rg.ev, go_sem, q31]) ⟨rfl, hR, Ext.rfl' _⟩
              refine ⟨Rg.at_run [32, 28] rfl ?_, ?_⟩
              · intro ρ W hR ⟨q32, q28, _⟩
                replace q32 : ρ 32 = .pointer (some ⟨(ad.add (k * 2)).block, (ad.add (k * 2)).off + 1, none⟩) := q32
                replace q28 : ρ 28 = .bool false := q28
                refine ⟨by simp [Rg.wants, q28], ?_⟩
                have c_ : W.cell? (⟨(ad.add (k * 2)).block, (ad.add (k * 2)).off + 1, none⟩) = some (.slice A1 e.data.length c1) := (hR.cell (p := ⟨(ad.add (k * 2)).block, (ad.add (k * 2)).off + 1, none⟩) hab).trans p1
                exact Rg.run_ok (v := .slice A1 e.data.length c1) (by simp [execOp, Rg.ev, go_sem, q32, c_]) ⟨rfl, hR, Ext.rfl' _⟩
              refine ⟨Rg.at_run [33, 28] rfl ?_, ?_⟩
              · intro ρ W hR ⟨q33, q28, _⟩
                replace q33 : ρ 33 = .slice A1 e.data.length c1 := q33
                replace q28 : ρ 28 = .bool false := q28
                refine ⟨by simp [Rg.wants, q28], ?_⟩
                have hs := run_str (P := Try.prog) (r1'.ext hR) Try.underlying28 Try.underlying5 Try.underlying9
                exact Rg.run_ok (v := str e.data) (by simp only [execOp, Rg.ev, Sem.run_bind, Sem.run_pure, Result.andThen_ok, q33, hs]) ⟨rfl, hR, Ext.rfl' _⟩
              refine ⟨Rg.at_run [1, 28] rfl ?_, ?_⟩
              · intro ρ W hR ⟨q1, q28, _⟩
                replace q1 : ρ 1 = .slice (some ad2) m.length d := q1
                replace q28 : ρ 28 = .bool false := q28
                refine ⟨by simp [Rg.wants, q28], ?_⟩
                exact Rg.run_ok (v := .slice (some ad2) m.length d) (by simp [execOp, Rg.ev, go_sem, q1]) ⟨rfl, hR, Ext.rfl' _⟩
              refine ⟨Rg.at_run [5, 28] rfl ?_, ?_⟩
              · intro ρ W hR ⟨q5, q28, _⟩
                replace q5 : ρ 5 = .int .i64 k := q5
                replace q28 : ρ 28 = .bool false := q28
                refine ⟨by simp [Rg.wants, q28], ?_⟩
                exact Rg.run_ok (v := .int .i64 k) (by simp [execOp, Rg.ev, go_sem, q5]) ⟨rfl, hR, Ext.rfl' _⟩
              refine ⟨Rg.at_run [35, 36, 28] rfl ?_, ?_⟩
              · intro ρ W hR ⟨q35, q36, q28, _⟩
                replace q35 : ρ 35 = .slice (some ad2) m.length d := q35
                replace q36 : ρ 36 = .int .i64 k := q36
                replace q28 : ρ 28 = .bool false := q28
                refine ⟨by simp [Rg.wants, q28], ?_⟩
                exact Rg.run_ok (v := .pointer (some (ad2.add (k * 2)))) (by simp [execOp, Rg.ev, go_sem, q35, q36, hb1, hb3']) ⟨rfl, hR, Ext.rfl' _⟩
              refine ⟨Rg.at_run [37, 28] rfl ?_, ?_⟩
              · intro ρ W hR ⟨q37, q28, _⟩
                replace q37 : ρ 37 = .pointer (some (ad2.add (k * 2))) := q37
                replace q28 : ρ 28 = .bool false := q28
                refine ⟨by simp [Rg.wants, q28], ?_⟩
                exact Rg.run_ok (v := .pointer (some ⟨(ad2.add (k * 2)).block, (ad2.add (k * 2)).off + 1, none⟩)) (by simp [execOp, Rg.ev, go_sem, q37]) ⟨rfl, hR, Ext.rfl' _⟩
              refine ⟨Rg.at_run [38, 28] rfl ?_, ?_⟩
              · intro ρ W hR ⟨q38, q28, _⟩
                replace q38 : ρ 38 = .pointer (some ⟨(ad2.add (k * 2)).block, (ad2.add (k * 2)).off + 1, none⟩) := q38
                replace q28 : ρ 28 = .bool false := q28
                refine ⟨by simp [Rg.wants, q28], ?_⟩
                have c_ : W.cell? (⟨(ad2.add (k * 2)).block, (ad2.add (k * 2)).off + 1, none⟩) = some (.slice A2 e2.data.length c2) := (hR.cell (p := ⟨(ad2.add (k * 2)).block, (ad2.add (k * 2)).off + 1, none⟩) hab2).trans q1_
                exact Rg.run_ok (v := .slice A2 e2.data.length c2) (by simp [execOp, Rg.ev, go_sem, q38, c_]) ⟨rfl, hR, Ext.rfl' _⟩
              refine ⟨Rg.at_run [39, 28] rfl ?_, ?_⟩
              · intro ρ W hR ⟨q39, q28, _⟩
                replace q39 : ρ 39 = .slice A2 e2.data.length c2 := q39
                replace q28 : ρ 28 = .bool false := q28
                refine ⟨by simp [Rg.wants, q28], ?_⟩
                have hs := run_str (P := Try.prog) (r2'.ext hR) Try.underlying28 Try.underlying5 Try.underlying9
                exact Rg.run_ok (v := str e2.data) (by simp only [execOp, Rg.ev, Sem.run_bind, Sem.run_pure, Result.andThen_ok, q39, hs]) ⟨rfl, hR, Ext.rfl' _⟩
              refine ⟨Rg.at_run [34, 40, 28] rfl ?_, ?_⟩
              · intro ρ W hR ⟨q34, q40, q28, _⟩
                replace q34 : ρ 34 = str e.data := q34
                replace q40 : ρ 40 = str e2.data := q40
                replace q28 : ρ 28 = .bool false := q28
                refine ⟨by simp [Rg.wants, q28], ?_⟩
                have g2_ := g2
                simp only [beq_iff_eq, beq_eq_false_iff_ne, ne_eq] at g2_
                exact Rg.run_ok (v := .bool true) (by simp [execOp, Rg.ev, go_sem, q34, q40, g2_]) ⟨rfl, hR, Ext.rfl' _⟩
              refine ⟨Rg.at_run [28, 41] rfl ?_, ?_⟩
              · intro ρ W hR ⟨q28, q41, _⟩
                replace q28 : ρ 28 = .bool false := q28
                replace q41 : ρ 41 = .bool true := q41
                refine ⟨rfl, ?_⟩
                exact Rg.run_ok (v := .bool true) (by simp [execOp, Rg.ev, go_sem, q28, q41]) ⟨rfl, hR, Ext.rfl' _⟩
              trivial
            case en =>
              intro tm W hR hsz hk
              rw [Rg.fin_eq (ds := [17, 18, 19, 20, 21, 22, 23, 24, 25, 26, 27, 28, 29, 30, 31, 32, 33, 34, 35, 36, 37, 38, 39, 40, 41, 42]) rfl rfl rfl hsz hk]
              have k17 : tm.getD 17 undef = .slice (some ad) l.length c := hk 17
              have k18 : tm.getD 18 undef = .int .i64 k := hk 18
              have k19 : tm.getD 19 undef = .pointer (some (ad.add (k * 2))) := hk 19
              have k20 : tm.getD 20 undef = .pointer (some (ad.add (k * 2))) := hk 20
              have k21 : tm.getD 21 undef = .int .u64 e.term := hk 21
              have k22 : tm.getD 22 undef = .slice (some ad2) m.length d := hk 22
              have k23 : tm.getD 23 undef = .int .i64 k := hk 23
              have k24 : tm.getD 24 undef = .pointer (some (ad2.add (k * 2))) := hk 24
              have k25 : tm.getD 25 undef = .pointer (some (ad2.add (k * 2))) := hk 25
              have k26 : tm.getD 26 undef = .int .u64 e2.term := hk 26
              have k27 : tm.getD 27 undef = .bool false := hk 27
              have k28 : tm.getD 28 undef = .bool false := hk 28
              have k29 : tm.getD 29 undef = .slice (some ad) l.length c := hk 29
              have k30 : tm.getD 30 undef = .int .i64 k := hk 30
              have k31 : tm.getD 31 undef = .pointer (some (ad.add (k * 2))) := hk 31
              have k32 : tm.getD 32 undef = .pointer (some ⟨(ad.add (k * 2)).block, (ad.add (k * 2)).off + 1, none⟩) := hk 32
              have k33 : tm.getD 33 undef = .slice A1 e.data.length c1 := hk 33
              have k34 : tm.getD 34 undef = str e.data := hk 34
              have k35 : tm.getD 35 undef = .slice (some ad2) m.length d := hk 35
              have k36 : tm.getD 36 undef = .int .i64 k := hk 36
              have k37 : tm.getD 37 undef = .pointer (some (ad2.add (k * 2))) := hk 37
              have k38 : tm.getD 38 undef = .pointer (some ⟨(ad2.add (k * 2)).block, (ad2.add (k * 2)).off + 1, none⟩) := hk 38
              have k39 : tm.getD 39 undef = .slice A2 e2.data.length c2 := hk 39
              have k40 : tm.getD 40 undef = str e2.data := hk 40
              have k41 : tm.getD 41 undef = .bool true := hk 41
              have k42 : tm.getD 42 undef = .bool true := hk 42
              clear hk hsz
              simp only [Rg.putAll, List.setIfInBounds_toArray, List.set_cons_zero, List.set_cons_succ, k17, k18, k19, k20, k21, k22, k23, k24, k25, k26, k27, k28, k29, k30, k31, k32, k33, k34, k35, k36, k37, k38, k39, k40, k41, k42]
              clear k17
              clear k18
              clear k19
              clear k20
              clear k21
              clear k22
              clear k23
              clear k24
              clear k25
              clear k26
              clear k27
              clear k28
              clear k29
              clear k30
              clear k31
              clear k32
              clear k33
              clear k34
              clear k35
              clear k36
              clear k37
              clear k38
              clear k39
              clear k40
              clear k41
              clear k42
              refine Rg.nil_list ?_
  
              go_wp2
              go_ret
              exact RetIs.no (hxr.trans' hR) (hne.out HE.out)
        · have HE : Hid (¬ e = e2) := hide (fun h => by simp [h] at g1)
          go_upto_region 6 with fail
          refine Rg.regionT Try.checked.mixed 43 26 (by kernel_rfl) [
            (fun x_ _ => x_ = .slice (some ad) l.length c),
            (fun x_ _ => x_ = .int .i64 k),
            (fun x_ _ => x_ = .pointer (some (ad.add (k * 2)))),
            (fun x_ _ => x_ = .pointer (some (ad.add (k * 2)))),
            (fun x_ _ => x_ = .int .u64 e.term),
            (fun x_ _ => x_ = .slice (some ad2) m.length d),
            (fun x_ _ => x_ = .int .i64 k),
            (fun x_ _ => x_ = .pointer (some (ad2.add (k * 2)))),
            (fun x_ _ => x_ = .pointer (some (ad2.add (k * 2)))),
            (fun x_ _ => x_ = .int .u64 e2.term),
            (fun x_ _ => x_ = .bool true),
            (fun x_ _ => x_ = .bool true),
            (fun x_ _ => x_ = undef),
            (fun x_ _ => x_ = undef),
            (fun x_ _ => x_ = undef),
            (fun x_ _ => x_ = undef),
            (fun x_ _ => x_ = undef),
            (fun x_ _ => x_ = undef),
            (fun x_ _ => x_ = undef),
            (fun x_ _ => x_ = undef),
            (fun x_ _ => x_ = undef),
            (fun x_ _ => x_ = undef),
            (fun x_ _ => x_ = undef),
            (fun x_ _ => x_ = undef),
            (fun x_ _ => x_ = undef),
            (fun x_ _ => x_ = .bool true)] (fun W => Ext wr W) Ext rfl rfl rfl
            ?st ((Ext.rfl' wr).drew') ?ob ?en
          case st => exact ⟨fun _ _ _ h _ => h, fun _ _ _ h _ => h, fun _ _ _ h _ => h, fun _ _ _ h _ => h, fun _ _ _ h _ => h, fun _ _ _ h _ => h, fun _ _ _ h _ => h, fun _ _ _ h _ => h, fun _ _ _ h _ => h, fun _ _ _ h _ => h, fun _ _ _ h _ => h, fun _ _ _ h _ => h, fun _ _ _ h _ => h, fun _ _ _ h _ => h, fun _ _ _ h _ => h, fun _ _ _ h _ => h, fun _ _ _ h _ => h, fun _ _ _ h _ => h, fun _ _ _ h _ => h, fun _ _ _ h _ => h, fun _ _ _ h _ => h, fun _ _ _ h _ => h, fun _ _ _ h _ => h, fun _ _ _ h _ => h, fun _ _ _ h _ => h, fun _ _ _ h _ => h, trivial⟩
          case ob =>
            refine ⟨Rg.at_run [0] rfl ?_, ?_⟩
            · intro ρ W hR ⟨q0, _⟩
              replace q0 : ρ 0 = .slice (some ad) l.length c := q0
              refine ⟨rfl, ?_⟩
              exact Rg.run_ok (v := .slice (some ad) l.length c) (by simp [execOp, Rg.ev, go_sem, q0]) ⟨rfl, hR, Ext.rfl' _⟩
            refine ⟨Rg.at_run [5] rfl ?_, ?_⟩
            · intro ρ W hR ⟨q5, _⟩
              replace q5 : ρ 5 = .int .i64 k := q5
              refine ⟨rfl, ?_⟩
              exact Rg.run_ok (v := .int .i64 k) (by simp [execOp, Rg.ev, go_sem, q5]) ⟨rfl, hR, Ext.rfl' _⟩
            refine ⟨Rg.at_run [17, 18] rfl ?_, ?_⟩
            · intro ρ W hR ⟨q17, q18, _⟩
              replace q17 : ρ 17 = .slice (some ad) l.length c := q17
              replace q18 : ρ 18 = .int .i64 k := q18
              refine ⟨rfl, ?_⟩
              exact Rg.run_ok (v := .pointer (some (ad.add (k * 2)))) (by simp [execOp, Rg.ev, go_sem, q17, q18, hb1, hb2']) ⟨rfl, hR, Ext.rfl' _⟩
            refine ⟨Rg.at_run [19] rfl ?_, ?_⟩
            · intro ρ W hR ⟨q19, _⟩
              replace q19 : ρ 19 = .pointer (some (ad.add (k * 2))) := q19
              refine ⟨rfl, ?_⟩
              exact Rg.run_ok (v := .pointer (some (ad.add (k * 2)))) (by simp [execOp, Rg.ev, go_sem, q19]) ⟨rfl, hR, Ext.rfl' _⟩
            refine ⟨Rg.at_run [20] rfl ?_, ?_⟩
            · intro ρ W hR ⟨q20, _⟩
              replace q20 : ρ 20 = .pointer (some (ad.add (k * 2))) := q20
              refine ⟨rfl, ?_⟩
              have c_ : W.cell? (ad.add (k * 2)) = some (.int .u64 e.term) := (hR.cell (p := ad.add (k * 2)) hab).trans p0
              exact Rg.run_ok (v := .int .u64 e.term) (by simp [execOp, Rg.ev, go_sem, q20, c_]) ⟨rfl, hR, Ext.rfl' _⟩
            refine ⟨Rg.at_run [1] rfl ?_, ?_⟩
            · intro ρ W hR ⟨q1, _⟩
              replace q1 : ρ 1 = .slice (some ad2) m.length d := q1
              refine ⟨rfl, ?_⟩
              exact Rg.run_ok (v := .slice (some ad2) m.length d) (by simp [execOp, Rg.ev, go_sem, q1]) ⟨rfl, hR, Ext.rfl' _⟩
            refine ⟨Rg.at_run [5] rfl ?_, ?_⟩
            · intro ρ W hR ⟨q5, _⟩
              replace q5 : ρ 5 = .int .i64 k := q5
              refine ⟨rfl, ?_⟩
              exact Rg.run_ok (v := .int .i64 k) (by simp [execOp, Rg.ev, go_sem, q5]) ⟨rfl, hR, Ext.rfl' _⟩
            refine ⟨Rg.at_run [22, 23] rfl ?_, ?_⟩
            · intro ρ W hR ⟨q22, q23, _⟩
              replace q22 : ρ 22 = .slice (some ad2) m.length d := q22
              replace q23 : ρ 23 = .int .i64 k := q23
              refine ⟨rfl, ?_⟩
              exact Rg.run_ok (v := .pointer (some (ad2.add (k * 2)))) (by simp [execOp, Rg.ev, go_sem, q22, q23, hb1, hb3']) ⟨rfl, hR, Ext.rfl' _⟩
            refine ⟨Rg.at_run [24] rfl ?_, ?_⟩
            · intro ρ W hR ⟨q24, _⟩
              replace q24 : ρ 24 = .pointer (some (ad2.add (k * 2))) := q24
              refine ⟨rfl, ?_⟩
              exact Rg.run_ok (v := .pointer (some (ad2.add (k * 2)))) (by simp [execOp, Rg.ev, go_sem, q24]) ⟨rfl, hR, Ext.rfl' _⟩
            refine ⟨Rg.at_run [25] rfl ?_, ?_⟩
            · intro ρ W hR ⟨q25, _⟩
              replace q25 : ρ 25 = .pointer (some (ad2.add (k * 2))) := q25
              refine ⟨rfl, ?_⟩
              have c_ : W.cell? (ad2.add (k * 2)) = some (.int .u64 e2.term) := (hR.cell (p := ad2.add (k * 2)) hab2).trans q0_
              exact Rg.run_ok (v := .int .u64 e2.term) (by simp [execOp, Rg.ev, go_sem, q25, c_]) ⟨rfl, hR, Ext.rfl' _⟩
            refine ⟨Rg.at_run [21, 26] rfl ?_, ?_⟩
            · intro ρ W hR ⟨q21, q26, _⟩
              replace q21 : ρ 21 = .int .u64 e.term := q21
              replace q26 : ρ 26 = .int .u64 e2.term := q26
              refine ⟨rfl, ?_⟩
              have g1_ := g1
              simp only [beq_iff_eq, beq_eq_false_iff_ne, ne_eq] at g1_
              exact Rg.run_ok (v := .bool true) (by simp [execOp, Rg.ev, go_sem, q21, q26, g1_]) ⟨rfl, hR, Ext.rfl' _⟩
            refine ⟨Rg.at_run [27] rfl ?_, ?_⟩
            · intro ρ W hR ⟨q27, _⟩
              replace q27 : ρ 27 = .bool true := q27
              refine ⟨rfl, ?_⟩
              exact Rg.run_ok (v := .bool true) (by simp [execOp, Rg.ev, go_sem, q27]) ⟨rfl, hR, Ext.rfl' _⟩
            refine ⟨Rg.at_skip [0, 28] rfl (by intro ρ W hR ⟨q0, q28, _⟩; replace q0 : ρ 0 = .slice (some ad) l.length c := q0; replace q28 : ρ 28 = .bool true := q28; exact ⟨by simp [Rg.wants, q28], rfl, Ext.rfl' _⟩), ?_⟩
            refine ⟨Rg.at_skip [5, 28] rfl (by intro ρ W hR ⟨q5, q28, _⟩; replace q5 : ρ 5 = .int .i64 k := q5; replace q28 : ρ 28 = .bool true := q28; exact ⟨by simp [Rg.wants, q28], rfl, Ext.rfl' _⟩), ?_⟩
            refine ⟨Rg.at_skip [29, 30, 28] rfl (by intro ρ W hR ⟨q29, q30, q28, _⟩; replace q29 : ρ 29 = undef := q29; replace q30 : ρ 30 = undef := q30; replace q28 : ρ 28 = .bool true := q28; exact ⟨by simp [Rg.wants, q28], rfl, Ext.rfl' _⟩), ?_⟩
            refine ⟨Rg.at_skip [31, 28] rfl (by intro ρ W hR ⟨q31, q28, _⟩; replace q31 : ρ 31 = undef := q31; replace q28 : ρ 28 = .bool true := q28; exact ⟨by simp [Rg.wants, q28], rfl, Ext.rfl' _⟩), ?_⟩
            refine ⟨Rg.at_skip [32, 28] rfl (by intro ρ W hR ⟨q32, q28, _⟩; replace q32 : ρ 32 = undef := q32; replace q28 : ρ 28 = .bool true := q28; exact ⟨by simp [Rg.wants, q28], rfl, Ext.rfl' _⟩), ?_⟩
            refine ⟨Rg.at_skip [33, 28] rfl (by intro ρ W hR ⟨q33, q28, _⟩; replace q33 : ρ 33 = undef := q33; replace q28 : ρ 28 = .bool true := q28; exact ⟨by simp [Rg.wants, q28], rfl, Ext.rfl' _⟩), ?_⟩
            refine ⟨Rg.at_skip [1, 28] rfl (by intro ρ W hR ⟨q1, q28, _⟩; replace q1 : ρ 1 = .slice (some ad2) m.length d := q1; replace q28 : ρ 28 = .bool true := q28; exact ⟨by simp [Rg.wants, q28], rfl, Ext.rfl' _⟩), ?_⟩
            refine ⟨Rg.at_skip [5, 28] rfl (by intro ρ W hR ⟨q5, q28, _⟩; replace q5 : ρ 5 = .int .i64 k := q5; replace q28 : ρ 28 = .bool true := q28; exact ⟨by simp [Rg.wants, q28], rfl, Ext.rfl' _⟩), ?_⟩
            refine ⟨Rg.at_skip [35, 36, 28] rfl (by intro ρ W hR ⟨q35, q36, q28, _⟩; replace q35 : ρ 35 = undef := q35; replace q36 : ρ 36 = undef := q36; replace q28 : ρ 28 = .bool true := q28; exact ⟨by simp [Rg.wants, q28], rfl, Ext.rfl' _⟩), ?_⟩
            refine ⟨Rg.at_skip [37, 28] rfl (by intro ρ W hR ⟨q37, q28, _⟩; replace q37 : ρ 37 = undef := q37; replace q28 : ρ 28 = .bool true := q28; exact ⟨by simp [Rg.wants, q28], rfl, Ext.rfl' _⟩), ?_⟩
            refine ⟨Rg.at_skip [38, 28] rfl (by intro ρ W hR ⟨q38, q28, _⟩; replace q38 : ρ 38 = undef := q38; replace q28 : ρ 28 = .bool true := q28; exact ⟨by simp [Rg.wants, q28], rfl, Ext.rfl' _⟩), ?_⟩
            refine ⟨Rg.at_skip [39, 28] rfl (by intro ρ W hR ⟨q39, q28, _⟩; replace q39 : ρ 39 = undef := q39; replace q28 : ρ 28 = .bool true := q28; exact ⟨by simp [Rg.wants, q28], rfl, Ext.rfl' _⟩), ?_⟩
            refine ⟨Rg.at_skip [34, 40, 28] rfl (by intro ρ W hR ⟨q34, q40, q28, _⟩; replace q34 : ρ 34 = undef := q34; replace q40 : ρ 40 = undef := q40; replace q28 : ρ 28 = .bool true := q28; exact ⟨by simp [Rg.wants, q28], rfl, Ext.rfl' _⟩), ?_⟩
            refine ⟨Rg.at_run [28, 41] rfl ?_, ?_⟩
            · intro ρ W hR ⟨q28, q41, _⟩
              replace q28 : ρ 28 = .bool true := q28
              replace q41 : ρ 41 = undef := q41
              refine ⟨rfl, ?_⟩
              exact Rg.run_ok (v := .bool true) (by simp [execOp, Rg.ev, go_sem, q28, q41]) ⟨rfl, hR, Ext.rfl' _⟩
            trivial
          case en =>
            intro tm W hR hsz hk
            rw [Rg.fin_eq (ds := [17, 18, 19, 20, 21, 22, 23, 24, 25, 26, 27, 28, 29, 30, 31, 32, 33, 34, 35, 36, 37, 38, 39, 40, 41, 42]) rfl rfl rfl hsz hk]
            have k17 : tm.getD 17 undef = .slice (some ad) l.length c := hk 17
            have k18 : tm.getD 18 undef = .int .i64 k := hk 18
            have k19 : tm.getD 19 undef = .pointer (some (ad.add (k * 2))) := hk 19
            have k20 : tm.getD 20 undef = .pointer (some (ad.add (k * 2))) := hk 20
            have k21 : tm.getD 21 undef = .int .u64 e.term := hk 21
            have k22 : tm.getD 22 undef = .slice (some ad2) m.length d := hk 22
            have k23 : tm.getD 23 undef = .int .i64 k := hk 23
            have k24 : tm.getD 24 undef = .pointer (some (ad2.add (k * 2))) := hk 24
            have k25 : tm.getD 25 undef = .pointer (some (ad2.add (k * 2))) := hk 25
            have k26 : tm.getD 26 undef = .int .u64 e2.term := hk 26
            have k27 : tm.getD 27 undef = .bool true := hk 27
            have k28 : tm.getD 28 undef = .bool true := hk 28
            have k29 : tm.getD 29 undef = undef := hk 29
            have k30 : tm.getD 30 undef = undef := hk 30
            have k31 : tm.getD 31 undef = undef := hk 31
            have k32 : tm.getD 32 undef = undef := hk 32
            have k33 : tm.getD 33 undef = undef := hk 33
            have k34 : tm.getD 34 undef = undef := hk 34
            have k35 : tm.getD 35 undef = undef := hk 35
            have k36 : tm.getD 36 undef = undef := hk 36
            have k37 : tm.getD 37 undef = undef := hk 37
            have k38 : tm.getD 38 undef = undef := hk 38
            have k39 : tm.getD 39 undef = undef := hk 39
            have k40 : tm.getD 40 undef = undef := hk 40
            have k41 : tm.getD 41 undef = undef := hk 41
            have k42 : tm.getD 42 undef = .bool true := hk 42
            clear hk hsz
            simp only [Rg.putAll, List.setIfInBounds_toArray, List.set_cons_zero, List.set_cons_succ, k17, k18, k19, k20, k21, k22, k23, k24, k25, k26, k27, k28, k29, k30, k31, k32, k33, k34, k35, k36, k37, k38, k39, k40, k41, k42]
            clear k17
            clear k18
            clear k19
            clear k20
            clear k21
            clear k22
            clear k23
            clear k24
            clear k25
            clear k26
            clear k27
            clear k28
            clear k29
            clear k30
            clear k31
            clear k32
            clear k33
            clear k34
            clear k35
            clear k36
            clear k37
            clear k38
            clear k39
            clear k40
            clear k41
            clear k42
            refine Rg.nil_list ?_

            go_wp2
            go_ret
            exact RetIs.no (hxr.trans' hR) (hne.out HE.out)
      · go_wp2
        go_ret
        exact RetIs.yes hxr (by have := hsm.out; rwa [List.take_of_length_le (by omega), List.take_of_length_le (by rw [← HL.out]; omega)] at this)
  · have HL : Hid (¬ l = m) := hide (fun h => hlen (by rw [h]))
    have fl : ((l.length : Int) == (m.length : Int)) = false := by simp; omega
    have fl2 : (l.length == m.length) = false := by simp [hlen]
    clear hlen
    go_enter Try.func39, Try.ntmps39
    go_wp2
    go_ret
    exact RetIs.no (Ext.rfl' _) HL.out
set_option maxHeartbeats 6400000 in
theorem sameKeptG_b (k q : Kp) (vs1 ve1 vs2 ve2 : Value) (w : World) (h1 : Bs w vs1 k.snap.state) (h2 : Bs w vs2 q.snap.state) (e1 : Enc.Sl enE w noneAt ve1 k.ents) (e2 : Enc.Sl enE w noneAt ve2 q.ents) :
    Calls Try.prog 14 #[.agg (kpcells k vs1 ve1).toArray, .agg (kpcells q vs2 ve2).toArray] w fun e w' => RetIs (k = q) w w' e := by
  obtain ⟨A1, c1, rfl, -, -, -⟩ := id h1
  obtain ⟨A2, c2, rfl, -, -, -⟩ := id h2
  obtain ⟨B1, d1, rfl, -, -⟩ := e1.form
  obtain ⟨B2, d2, rfl, -, -⟩ := e2.form
  obtain ⟨hB, hC, hxw⟩ := two_alK w 33 33 (kpcells k (.slice A1 k.snap.state.length c1) (.slice B1 k.ents.length d1)).toArray (kpcells q (.slice A2 q.snap.state.length c2) (.slice B2 q.ents.length d2)).toArray
  obtain ⟨g, hg⟩ : ∃ g, w.heap.size = g := ⟨_, rfl⟩
  rw [hg] at hB hC
  have HS := hide (fun (W : World) hx => sameSnapG_b k.snap q.snap (.slice A1 k.snap.state.length c1) (.slice A2 q.snap.state.length c2) W (h1.ext hx) (h2.ext hx))
  have HN := hide (fun (W : World) hx => sameEntriesG_b (.slice B1 k.ents.length d1) (.slice B2 q.ents.length d2) k.ents q.ents W (e1.ext hx) (e2.ext hx))
  rcases Bool.eq_false_or_eq_true (k.hard.term == q.hard.term && k.hard.vote == q.hard.vote) with f0 | f0
  case inr =>
    have HE : Hid (¬ k = q) := hide (fun h => by simp [h] at f0)
    rcases Bool.eq_false_or_eq_true (k.hard.term == q.hard.term) with f1 | f1
    · have f2 : (k.hard.vote == q.hard.vote) = false := by rw [f1] at f0; simpa using f0
      clear f0
      go_enter Try.func14, Try.ntmps14
      go_upto_region 1 with fail
      generalize ((w.alloc (.cells (kpcells k (.slice A1 k.snap.state.length c1) (.slice B1 k.ents.length d1)).toArray 33)).alloc (.cells (kpcells q (.slice A2 q.snap.state.length c2) (.slice B2 q.ents.length d2)).toArray 33)) = w1 at *
      try rw [hg]
      have b0 := (hB.cell 0).trans rfl
      have b1 := (hB.cell 1).trans rfl
      have c0 := (hC.cell 0).trans rfl
      have c1_ := (hC.cell 1).trans rfl
      go_wp2
      go_ret
      exact RetIs.no hxw HE.out
    · clear f0
      go_enter Try.func14, Try.ntmps14
      go_upto_region 1 with fail
      generalize ((w.alloc (.cells (kpcells k (.slice A1 k.snap.state.length c1) (.slice B1 k.ents.length d1)).toArray 33)).alloc (.cells (kpcells q (.slice A2 q.snap.state.length c2) (.slice B2 q.ents.length d2)).toArray 33)) = w1 at *
      try rw [hg]
      have b0 := (hB.cell 0).trans rfl
      have b1 := (hB.cell 1).trans rfl
      have c0 := (hC.cell 0).trans rfl
      have c1_ := (hC.cell 1).trans rfl
      go_wp2
      go_ret
      exact RetIs.no hxw HE.out
  case inl =>
    have f1 : (k.hard.term == q.hard.term) = true := by simp at f0; simp [f0]
    have f2 : (k.hard.vote == q.hard.vote) = true := by simp at f0; simp [f0]
    have HH : Hid (k.hard = q.hard) := hide (hd_ext (by simpa using f1) (by simpa using f2))
    clear f0
    go_enter Try.func14, Try.ntmps14
    go_upto_region 1 with fail
    generalize ((w.alloc (.cells (kpcells k (.slice A1 k.snap.state.length c1) (.slice B1 k.ents.length d1)).toArray 33)).alloc (.cells (kpcells q (.slice A2 q.snap.state.length c2) (.slice B2 q.ents.length d2)).toArray 33)) = w1 at *
    try rw [hg]
    have b0 := (hB.cell 0).trans rfl
    have c0 := (hC.cell 0).trans rfl
    have b1 := (hB.cell 1).trans rfl
    have c1_ := (hC.cell 1).trans rfl
    have b2 := (hB.cell 2).trans rfl
    have c2_ := (hC.cell 2).trans rfl
    have b3 := (hB.cell 3).trans rfl
    have c3 := (hC.cell 3).trans rfl
    have b4 := (hB.cell 4).trans rfl
    have c4 := (hC.cell 4).trans rfl
    have b5 := (hB.cell 5).trans rfl
    have c5 := (hC.cell 5).trans rfl
    go_wp2_with fail
    refine (HS.out w1 hxw).mono ?_
    rintro e w2 ⟨b, rfl, hx2, hb⟩
    clear b0 b1 b2 b3 b4 b5 c0 c1_ c2_ c3 c4 c5
    replace hB := hB.ext hx2
    replace hC := hC.ext hx2
    have b0 := (hB.cell 0).trans rfl
    have c0 := (hC.cell 0).trans rfl
    have b1 := (hB.cell 1).trans rfl
    have c1_ := (hC.cell 1).trans rfl
    have b2 := (hB.cell 2).trans rfl
    have c2_ := (hC.cell 2).trans rfl
    have b3 := (hB.cell 3).trans rfl
    have c3 := (hC.cell 3).trans rfl
    have b4 := (hB.cell 4).trans rfl
    have c4 := (hC.cell 4).trans rfl
    have b5 := (hB.cell 5).trans rfl
    have c5 := (hC.cell 5).trans rfl
    cases b with
    | false =>
      have HE : Hid (¬ k = q) := hide (fun h => by have := hb.out.2 (by rw [h]); cases this)
      go_wp2
      go_ret
      exact RetIs.no (hxw.trans' hx2) HE.out
    | true =>
      have HSN : Hid (k.snap = q.snap) := hide (hb.out.1 rfl)
      go_wp2_with fail
      refine (HN.out w2 (hxw.trans' hx2)).mono ?_
      rintro e w3 ⟨b, rfl, hx3, hb3⟩
      cases b with
      | false =>
        have HE : Hid (¬ k = q) := hide (fun h => by have := hb3.out.2 (by rw [h]); cases this)
        go_wp2
        go_ret
        exact RetIs.no ((hxw.trans' hx2).trans' hx3) HE.out
      | true =>
        have HE : Hid (k = q) := hide (kp_ext HH.out HSN.out (hb3.out.1 rfl))
        go_wp2
        go_ret
        exact RetIs.yes ((hxw.trans' hx2).trans' hx3) HE.out
end Go.Proofs.Ytboncnlcomeahaa

/- store.Save; the store's parts stay apart from blocks X. -/
namespace Go.Proofs.Ytboncnlcomeahaa
set_option linter.unusedVariables false
set_option linter.unusedSimpArgs false
set_option linter.unnecessarySimpa false
set_option maxRecDepth 100000
open Go.RowKit
theorem bsx_or {w : World} {X Y : Avoid} {v : Value} {l : Bytes} (h : Enc.BsX w X v l) (k : Enc.BsX w Y v l) : Enc.BsX w (fun j => X j ∨ Y j) v l := ⟨h.1, fun ad n c he h0 hx => hx.elim (h.2 ad n c he h0) (k.2 ad n c he h0)⟩
theorem en_or {w : World} {X Y : Avoid} {cs : List Value} {e : En} (h : enE.rep w X cs e) (k : enE.rep w Y cs e) : enE.rep w (fun j => X j ∨ Y j) cs e := by
  obtain ⟨v, rfl, h1, h2⟩ := en_rep.1 h
  obtain ⟨v', he, -, h3⟩ := en_rep.1 k
  obtain rfl : v = v' := by simpa [encells] using he
  exact en_rep.2 ⟨v, rfl, h1, bsx_or h2 h3⟩
theorem reads_det {w : World} {B n s : Nat} {A : Option Addr} {xs ys : List Value} (h : Reads w B s A n xs) (k : Reads w B s A n ys) : xs = ys := by
  apply List.ext_getElem? 
  intro j
  by_cases hj : j < xs.length
  · have hn : 0 < n := by
      rcases Nat.eq_zero_or_pos n with h0 | h0
      · have := h.1; rw [h0, Nat.zero_mul] at this; omega
      · exact h0
    obtain ⟨ad, rfl, -, h1⟩ := h.2 hn
    obtain ⟨ad', he, -, h2⟩ := k.2 hn
    obtain rfl := Option.some.inj he
    have hjy : j < ys.length := by rw [k.1, ← h.1]; exact hj
    have e1 := h1 j _ (List.getElem?_eq_getElem hj)
    have e2 := h2 j _ (List.getElem?_eq_getElem hjy)
    rw [List.getElem?_eq_getElem hj, List.getElem?_eq_getElem hjy, ← Option.some.inj (e1.symm.trans e2)]
  · have hjy : ¬ j < ys.length := by rw [k.1, ← h.1]; exact hj
    rw [List.getElem?_eq_none (by omega), List.getElem?_eq_none (by omega)]
theorem flat_inj {s : Nat} (hs : 0 < s) : ∀ (a b : List (List Value)), (∀ c ∈ a, c.length = s) → (∀ c ∈ b, c.length = s) → a.flatten = b.flatten → a = b
  | [], [], _, _, _ => rfl
  | [], d :: b, _, hb, h => by have := congrArg List.length h; simp [hb d List.mem_cons_self] at this; omega
  | c :: a, [], ha, _, h => by have := congrArg List.length h; simp [ha c List.mem_cons_self] at this; omega
  | c :: a, d :: b, ha, hb, h => by
    rw [List.flatten_cons, List.flatten_cons] at h
    obtain ⟨h1, h2⟩ := List.append_inj h (by rw [ha c List.mem_cons_self, hb d List.mem_cons_self])
    rw [h1, flat_inj hs a b (fun x hx => ha x (List.mem_cons_of_mem _ hx)) (fun x hx => hb x (List.mem_cons_of_mem _ hx)) h2]
theorem sl_or {w : World} {X Y : Avoid} {v : Value} {l : List En} (h : Enc.Sl enE w X v l) (k : Enc.Sl enE w Y v l) : Enc.Sl enE w (fun j => X j ∨ Y j) v l := by
  obtain ⟨A, c, css, rfl, h1, h2, h3, h4, h5⟩ := h
  obtain ⟨A', c', css', he, k1, k2, k3, k4, k5⟩ := k
  simp only [Value.slice.injEq, true_and] at he
  obtain ⟨rfl, rfl⟩ := he
  obtain rfl : css = css' := flat_inj (s := enE.size) (by decide) _ _ h5.lens k5.lens (reads_det h3 k3)
  exact ⟨A, c, css, rfl, h1, h2, h3, fun ad ha h0 hx => hx.elim (h4 ad ha h0) (k4 ad ha h0), h5.1, fun i cs a hi ha => en_or (h5.2 i cs a hi ha) (k5.2 i cs a hi ha)⟩
/-- what Save leaves -/
def RetSaveX (X : Avoid) (w w' : World) (e : Ending) (gs gd : Nat) (r : Dk × Kp × Int) : Prop :=
  ∃ (v : Value) (As : Option Addr) (cs : Nat) (Ae : Option Addr) (ce : Nat), e = .returned (.int .i64 r.2.2) ∧ StD w' gs gd r.2.1 r.1 v As cs Ae ce ∧ Chg [gs, gd] w w' ∧ Enc.BsX w' X (.slice As r.2.1.snap.state.length cs) r.2.1.snap.state ∧
    Enc.Sl enE w' X (.slice Ae r.2.1.ents.length ce) r.2.1.ents ∧ ∀ j, v.ownBlock = some j → ¬ X j
set_option maxHeartbeats 12800000 in
theorem saveX_b (X : Avoid) (gs gd : Nat) (k : Kp) (d : Dk) (v : Value) (As Ae : Option Addr) (cs ce : Nat) (x : Value) (l : List Rec) (n : Nat) (w : World) (h : StD w gs gd k d v As cs Ae ce) (hX : ∀ j, X j → j < w.heap.size) (hsX : Enc.BsX w X (.slice As k.snap.state.length cs) k.snap.state) (heX : Enc.Sl enE w X (.slice Ae k.ents.length ce) k.ents) (hvX : ∀ j, v.ownBlock = some j → ¬ X j) (hks : k.small n) (hx : Enc.Sl reE w (fun j => XS gs gd j ∨ X j) x l)
    (hl : ∀ r ∈ l, r.wide ∧ r.small) (hn0 : n + l.length ≤ 900) :
    Calls Try.prog 20 #[.pointer (some ⟨gs, 0, none⟩), x] w fun e w' => RetSaveX X w w' e gs gd (save d k l) := by
  have hn : n + l.length ≤ 1000 := by omega
  obtain ⟨Ax, cx, rfl, -, -⟩ := hx.form
  have hD := h.disk
  have hS := h.so
  have hne_ := h.ne
  have hkw := h.wide
  have hgsw : gs < w.heap.size := hS.blk.lt
  have hgdw : gd < w.heap.size := hD.blk.lt
  rcases Bool.eq_false_or_eq_true ((l.length : Int) == 0) with h0 | h0
  · have hl0 : l = [] := List.eq_nil_of_length_eq_zero (by simpa using h0)
    have HS : Hid (save d k l = (d, k, 0)) := if_pos hl0
    rw [HS.out]
    go_enter Try.func20, Try.ntmps20
    go_wp2
    go_ret
    exact ⟨v, As, cs, Ae, ce, rfl, h, Chg.refl _ _, hsX, heX, hvX⟩
  obtain ⟨nx, hnx⟩ : ∃ nx, kfold k l = nx := ⟨_, rfl⟩
  have HS : Hid (save d k l = ((saveD d l nx).1, if (saveD d l nx).2 = 0 then nx else k, (saveD d l nx).2)) := hide (by unfold save; rw [if_neg (by rintro rfl; simp at h0), hnx])
  obtain ⟨sv, hsv⟩ : ∃ sv, save d k l = sv := ⟨_, rfl⟩
  rw [hsv] at HS ⊢
  clear hsv
  have hnw : nx.wide := by rw [← hnx]; exact Kp.wide.fold l hkw fun r hr => (hl r hr).1
  have hns : nx.small (n + l.length) := by rw [← hnx]; exact Kp.small.fold l hks fun r hr => (hl r hr).2
  have HF := hide (fun W (hxx : Ext w W) => fold_b (fun j => XS gs gd j ∨ X j) k (.slice As k.snap.state.length cs) (.slice Ae k.ents.length ce) (.slice Ax l.length cx) l n W (fun j hj => Nat.lt_of_lt_of_le (hj.elim (fun h => by rcases h with h | h <;> omega) (hX j)) hxx.size) hkw hks ((bsx_or hS.bs hsX).ext hxx) ((sl_or hS.es heX).ext hxx) (hx.ext hxx) hl hn)
  rw [hnx] at HF
  clear hnx
  have b1 := (hS.blk.cell 1).trans rfl
  have b2 := (hS.blk.cell 2).trans rfl
  have b3 := (hS.blk.cell 3).trans rfl
  have b4 := (hS.blk.cell 4).trans rfl
  have b5 := (hS.blk.cell 5).trans rfl
  have b6 := (hS.blk.cell 6).trans rfl
  go_enter Try.func20, Try.ntmps20
  go_wp2_with fail
  refine (HF.out _ (Ext.rfl' _)).mono ?_
  rintro e w2 ⟨An, cn, Bn, dn, rfl, hnb, hno, hx2⟩
  clear b1 b2 b3 b4 b5 b6
  obtain ⟨gn, hgn⟩ : ∃ g_, w2.heap.size = g_ := ⟨_, rfl⟩
  have hN := Blk.new w2 33 #[.int .u64 nx.hard.term, .int .i64 nx.hard.vote, .int .u64 nx.snap.index, .int .u64 nx.snap.term, .slice An nx.snap.state.length cn, .slice Bn nx.ents.length dn]
  rw [hgn] at hN
  have hz : Ext w2 (w2.alloc (.cells #[.int .u64 nx.hard.term, .int .i64 nx.hard.vote, .int .u64 nx.snap.index, .int .u64 nx.snap.term, .slice An nx.snap.state.length cn, .slice Bn nx.ents.length dn] 33)) := (Ext.rfl' _).alloc' _
  have hgnw : w.heap.size ≤ gn := by rw [← hgn]; exact hx2.size
  go_upto_region 6 with fail
  try rw [hgn]
  clear hgn
  generalize (w2.alloc (.cells #[.int .u64 nx.hard.term, .int .i64 nx.hard.vote, .int .u64 nx.snap.index, .int .u64 nx.snap.term, .slice An nx.snap.state.length cn, .slice Bn nx.ents.length dn] 33)) = w3 at *
  have hx3 := hx2.trans' hz
  replace hnb := hnb.ext hz
  have hnen := hno.sl.ext hz
  clear hno hz hx2
  have hxl3 := (slN hx).ext hx3
  go_wp2_with fail
  refine (hasSnap_b (.slice Ax l.length cx) l w3 (by omega) hxl3).mono ?_
  rintro e w4 ⟨rfl, hx4⟩
  replace hN := hN.ext hx4
  replace hnb := hnb.ext hx4
  replace hnen := hnen.ext hx4
  replace hx3 := hx3.trans' hx4
  have hxl := (slN hx).ext hx3
  have hD4 := hD.ext hx3
  have hS4 := hS.ext hx3
  clear hx4 hxl3
  obtain ⟨q, hq⟩ : ∃ q, l.any isSnap = q := ⟨_, rfl⟩
  rw [hq]
  have hgdW : gd < w4.heap.size := hD4.blk.lt
  have hgsW : gs < w4.heap.size := hS4.blk.lt
  have hgnW : gn < w4.heap.size := hN.lt
  have hvd : ∀ j, v.ownBlock = some j → j ≠ gs := h.own
  have hSD : Hid (saveD d l nx = if q = true then d.op (lput (krecs nx)).length (Dk.repl (lput (krecs nx))) id
      else if (d.op (d.b.length + (lput l).length) (Dk.app (lput l)) (Dk.app (lput l))).2 = 0 then (d.op (d.b.length + (lput l).length) (Dk.app (lput l)) (Dk.app (lput l))).1.op 0 Dk.last id
      else d.op (d.b.length + (lput l).length) (Dk.app (lput l)) (Dk.app (lput l))) := hide (by unfold saveD; rw [hq])
  clear hq
  obtain ⟨sd, hsd⟩ : ∃ sd, saveD d l nx = sd := ⟨_, rfl⟩
  rw [hsd] at HS hSD
  clear hsd
  go_upto_if 19 with fail
  go_cut [6] (fun vi wx => ∃ v', vi = .int .i64 sd.2 ∧ DiskAt wx gd v' sd.1 ∧ Chg [gd] w4 wx ∧ ∀ j, v'.ownBlock = some j → v.ownBlock = some j ∨ (w4.heap.size ≤ j ∧ j < wx.heap.size))
  case first =>
    replace hS := hS4
    cases q with
    | true =>
      have hks2 := krecs_small hns hnw (sl_terms hnen)
      have hkl : (krecs nx).length ≤ 1000 := by have := hks2.2; omega
      have hne := slN hnen
      have hnb := hnb.mono (Y := noneAt) fun _ _ h => h.elim
      go_upto_region 8 with fail
      refine Rg.regionT Try.checked.mixed 49 7 (by kernel_rfl) [
        (fun x_ _ => x_ = .pointer (some ⟨gs, 0, none⟩)),
        (fun x_ _ => x_ = .pointer (some ⟨gs, 0, none⟩)),
        (fun x_ _ => x_ = .pointer (some ⟨gs, 0, none⟩)),
        (fun x_ _ => x_ = .pointer (some ⟨gd, 0, none⟩)),
        (fun x_ _ => x_ = .agg #[.int .u64 nx.hard.term, .int .i64 nx.hard.vote, .int .u64 nx.snap.index, .int .u64 nx.snap.term, .slice An nx.snap.state.length cn, .slice Bn nx.ents.length dn]),
        (fun v W => ∃ A c, v = .slice A (krecs nx).length c ∧ Enc.Sl reE W noneAt (.slice A (krecs nx).length c) (krecs nx)),
        (fun v W => Bs W v (lput (krecs nx)) ∧ Off v [gd])] (fun W => Ext w4 W) Ext rfl rfl rfl
        ?st ((Ext.rfl' w4).drew') ?ob ?en
      case st => exact ⟨fun _ _ _ h _ => h, fun _ _ _ h _ => h, fun _ _ _ h _ => h, fun _ _ _ h _ => h, fun _ _ _ h _ => h, fun _ _ _ ⟨a1_, a2_, h1_, h2_⟩ hx => ⟨a1_, a2_, h1_, h2_.ext hx⟩, fun _ _ _ ⟨h1_, h2_⟩ hx => ⟨h1_.ext hx, h2_⟩, trivial⟩
      case ob =>
        refine ⟨Rg.at_run [0] rfl ?_, ?_⟩
        · intro ρ W hR ⟨q0, _⟩
          replace q0 : ρ 0 = .pointer (some ⟨gs, 0, none⟩) := q0
          refine ⟨rfl, ?_⟩
          exact Rg.run_ok (v := .pointer (some ⟨gs, 0, none⟩)) (by simp [execOp, Rg.ev, go_sem, q0]) ⟨rfl, hR, Ext.rfl' _⟩
        refine ⟨Rg.at_run [20] rfl ?_, ?_⟩
        · intro ρ W hR ⟨q20, _⟩
          replace q20 : ρ 20 = .pointer (some ⟨gs, 0, none⟩) := q20
          refine ⟨rfl, ?_⟩
          exact Rg.run_ok (v := .pointer (some ⟨gs, 0, none⟩)) (by simp [execOp, Rg.ev, go_sem, q20]) ⟨rfl, hR, Ext.rfl' _⟩
        refine ⟨Rg.at_run [21] rfl ?_, ?_⟩
        · intro ρ W hR ⟨q21, _⟩
          replace q21 : ρ 21 = .pointer (some ⟨gs, 0, none⟩) := q21
          refine ⟨rfl, ?_⟩
          exact Rg.run_ok (v := .pointer (some ⟨gs, 0, none⟩)) (by simp [execOp, Rg.ev, go_sem, q21]) ⟨rfl, hR, Ext.rfl' _⟩
        refine ⟨Rg.at_run [22] rfl ?_, ?_⟩
        · intro ρ W hR ⟨q22, _⟩
          replace q22 : ρ 22 = .pointer (some ⟨gs, 0, none⟩) := q22
          refine ⟨rfl, ?_⟩
          have c0_ : W.cell? ⟨gs, 0, none⟩ = some (.pointer (some ⟨gd, 0, none⟩)) := ((hS.blk.ext hR).cell 0).trans rfl
          exact Rg.run_ok (v := .pointer (some ⟨gd, 0, none⟩)) (by simp [execOp, Rg.ev, go_sem, q22, c0_]) ⟨rfl, hR, Ext.rfl' _⟩
        refine ⟨Rg.at_run [5] rfl ?_, ?_⟩
        · intro ρ W hR ⟨q5, _⟩
          replace q5 : ρ 5 = .pointer (some ⟨gn, 0, none⟩) := q5
          refine ⟨rfl, ?_⟩
          have c0_ : W.cell? ⟨gn, 0, none⟩ = some (.int .u64 nx.hard.term) := ((hN.ext hR).cell 0).trans rfl
          have c1_ : W.cell? ⟨gn, 1, none⟩ = some (.int .i64 nx.hard.vote) := ((hN.ext hR).cell 1).trans rfl
          have c2_ : W.cell? ⟨gn, 2, none⟩ = some (.int .u64 nx.snap.index) := ((hN.ext hR).cell 2).trans rfl
          have c3_ : W.cell? ⟨gn, 3, none⟩ = some (.int .u64 nx.snap.term) := ((hN.ext hR).cell 3).trans rfl
          have c4_ : W.cell? ⟨gn, 4, none⟩ = some (.slice An nx.snap.state.length cn) := ((hN.ext hR).cell 4).trans rfl
          have c5_ : W.cell? ⟨gn, 5, none⟩ = some (.slice Bn nx.ents.length dn) := ((hN.ext hR).cell 5).trans rfl
          exact Rg.run_ok (v := .agg #[.int .u64 nx.hard.term, .int .i64 nx.hard.vote, .int .u64 nx.snap.index, .int .u64 nx.snap.term, .slice An nx.snap.state.length cn, .slice Bn nx.ents.length dn]) (by simp [execOp, Rg.ev, go_sem, q5, c0_, c1_, c2_, c3_, c4_, c5_]) ⟨rfl, hR, Ext.rfl' _⟩
        refine ⟨Rg.at_run [24] rfl ?_, ?_⟩
        · intro ρ W hR ⟨q24, _⟩
          replace q24 : ρ 24 = .agg #[.int .u64 nx.hard.term, .int .i64 nx.hard.vote, .int .u64 nx.snap.index, .int .u64 nx.snap.term, .slice An nx.snap.state.length cn, .slice Bn nx.ents.length dn] := q24
          refine ⟨rfl, ?_⟩
          refine Rg.enter_fn (args := #[.agg #[.int .u64 nx.hard.term, .int .i64 nx.hard.vote, .int .u64 nx.snap.index, .int .u64 nx.snap.term, .slice An nx.snap.state.length cn, .slice Bn nx.ents.length dn]]) rfl (by simp only [List.map_toArray, List.map_cons, List.map_nil, Rg.ev, q24]) (by kernel_rfl) ?_
          refine (records_b noneAt nx (.slice An nx.snap.state.length cn) (.slice Bn nx.ents.length dn) (n + l.length) W (fun _ h => h.elim) hnw hns (hnb.ext hR) (hne.ext hR) hn).mono ?_
          rintro e_ w9 ⟨m_, A_, c_, hm_, rfl, ho_, hxx⟩
          obtain rfl : m_ = krecs nx := hm_.out
          exact ⟨_, rfl, ⟨_, _, rfl, ho_.sl⟩, hR.trans' hxx, hxx⟩
        refine ⟨Rg.at_run [25] rfl ?_, ?_⟩
        · intro ρ W hR ⟨q25, _⟩
          replace q25 : (fun v W => ∃ A c, v = .slice A (krecs nx).length c ∧ Enc.Sl reE W noneAt (.slice A (krecs nx).length c) (krecs nx)) (ρ 25) W := q25
          refine ⟨rfl, ?_⟩
          obtain ⟨A9, c9, hv9, hl9⟩ := q25
          refine Rg.enter_fn (args := #[(.slice A9 (krecs nx).length c9)]) rfl (by simp only [List.map_toArray, List.map_cons, List.map_nil, Rg.ev, hv9]) (by kernel_rfl) ?_
          refine (lputs_b (.slice A9 (krecs nx).length c9) (krecs nx) W (by omega) hl9 hks2.1).mono ?_
          rintro e_ w9 ⟨m_, A_, c_, hm_, rfl, ha_, hxx⟩
          obtain rfl : m_ = lput (krecs nx) := hm_.out
          exact ⟨_, rfl, ⟨ha_.bs, ha_.off (fun j hj => by have := List.mem_singleton.1 hj; have h1 := hgdW; have h2 := hR.size; omega)⟩, hR.trans' hxx, hxx⟩
        trivial
      case en =>
        intro tm W hR hsz hk
        rw [Rg.fin_eq (ds := [20, 21, 22, 23, 24, 25, 26]) rfl rfl rfl hsz hk]
        have k20 : tm.getD 20 undef = .pointer (some ⟨gs, 0, none⟩) := hk 20
        have k21 : tm.getD 21 undef = .pointer (some ⟨gs, 0, none⟩) := hk 21
        have k22 : tm.getD 22 undef = .pointer (some ⟨gs, 0, none⟩) := hk 22
        have k23 : tm.getD 23 undef = .pointer (some ⟨gd, 0, none⟩) := hk 23
        have k24 : tm.getD 24 undef = .agg #[.int .u64 nx.hard.term, .int .i64 nx.hard.vote, .int .u64 nx.snap.index, .int .u64 nx.snap.term, .slice An nx.snap.state.length cn, .slice Bn nx.ents.length dn] := hk 24
        have k25 : (fun v W => ∃ A c, v = .slice A (krecs nx).length c ∧ Enc.Sl reE W noneAt (.slice A (krecs nx).length c) (krecs nx)) (tm.getD 25 undef) W := hk 25
        have k26 : (fun v W => Bs W v (lput (krecs nx)) ∧ Off v [gd]) (tm.getD 26 undef) W := hk 26
        clear hk hsz
        simp only [Rg.putAll, List.setIfInBounds_toArray, List.set_cons_zero, List.set_cons_succ, k20, k21, k22, k23, k24]
        clear k20
        clear k21
        clear k22
        clear k23
        clear k24
        generalize tm.getD 25 undef = u25 at *
        generalize tm.getD 26 undef = u26 at *
        obtain ⟨hb26, ho26⟩ := k26
        obtain ⟨A26, c26, rfl, -, -, -⟩ := id hb26
        have hll := lput_len (l := krecs nx) fun r hr => (hks2.1 r hr).2
        go_wp2_with fail
        refine (disk_replace gd v (.slice A26 (lput (krecs nx)).length c26) d (lput (krecs nx)) W (hD4.ext hR) hb26 ho26 (by omega)).mono ?_
        rintro e W5 ⟨rfl, v', hd5, hc5, hn5⟩
        go_wp2_with fail
        go_meet
        case rel => exact ⟨v', by rw [hSD.out, if_pos trivial], by rw [hSD.out, if_pos trivial]; exact hd5, (hR.chg [gd]).trans hc5, fun j hj => (hn5 j hj).imp id fun h => by have := hR.size; omega⟩
    | false =>
      go_upto_region 9 with fail
      refine Rg.regionT Try.checked.mixed 49 6 (by kernel_rfl) [
        (fun x_ _ => x_ = .pointer (some ⟨gs, 0, none⟩)),
        (fun x_ _ => x_ = .pointer (some ⟨gs, 0, none⟩)),
        (fun x_ _ => x_ = .pointer (some ⟨gs, 0, none⟩)),
        (fun x_ _ => x_ = .pointer (some ⟨gd, 0, none⟩)),
        (fun x_ _ => x_ = .slice Ax l.length cx),
        (fun v W => Bs W v (lput l) ∧ Off v [gd])] (fun W => Ext w4 W) Ext rfl rfl rfl
        ?st ((Ext.rfl' w4).drew') ?ob ?en
      case st => exact ⟨fun _ _ _ h _ => h, fun _ _ _ h _ => h, fun _ _ _ h _ => h, fun _ _ _ h _ => h, fun _ _ _ h _ => h, fun _ _ _ ⟨h1_, h2_⟩ hx => ⟨h1_.ext hx, h2_⟩, trivial⟩
      case ob =>
        refine ⟨Rg.at_run [0] rfl ?_, ?_⟩
        · intro ρ W hR ⟨q0, _⟩
          replace q0 : ρ 0 = .pointer (some ⟨gs, 0, none⟩) := q0
          refine ⟨rfl, ?_⟩
          exact Rg.run_ok (v := .pointer (some ⟨gs, 0, none⟩)) (by simp [execOp, Rg.ev, go_sem, q0]) ⟨rfl, hR, Ext.rfl' _⟩
        refine ⟨Rg.at_run [28] rfl ?_, ?_⟩
        · intro ρ W hR ⟨q28, _⟩
          replace q28 : ρ 28 = .pointer (some ⟨gs, 0, none⟩) := q28
          refine ⟨rfl, ?_⟩
          exact Rg.run_ok (v := .pointer (some ⟨gs, 0, none⟩)) (by simp [execOp, Rg.ev, go_sem, q28]) ⟨rfl, hR, Ext.rfl' _⟩
        refine ⟨Rg.at_run [29] rfl ?_, ?_⟩
        · intro ρ W hR ⟨q29, _⟩
          replace q29 : ρ 29 = .pointer (some ⟨gs, 0, none⟩) := q29
          refine ⟨rfl, ?_⟩
          exact Rg.run_ok (v := .pointer (some ⟨gs, 0, none⟩)) (by simp [execOp, Rg.ev, go_sem, q29]) ⟨rfl, hR, Ext.rfl' _⟩
        refine ⟨Rg.at_run [30] rfl ?_, ?_⟩
        · intro ρ W hR ⟨q30, _⟩
          replace q30 : ρ 30 = .pointer (some ⟨gs, 0, none⟩) := q30
          refine ⟨rfl, ?_⟩
          have c0_ : W.cell? ⟨gs, 0, none⟩ = some (.pointer (some ⟨gd, 0, none⟩)) := ((hS.blk.ext hR).cell 0).trans rfl
          exact Rg.run_ok (v := .pointer (some ⟨gd, 0, none⟩)) (by simp [execOp, Rg.ev, go_sem, q30, c0_]) ⟨rfl, hR, Ext.rfl' _⟩
        refine ⟨Rg.at_run [1] rfl ?_, ?_⟩
        · intro ρ W hR ⟨q1, _⟩
          replace q1 : ρ 1 = .slice Ax l.length cx := q1
          refine ⟨rfl, ?_⟩
          exact Rg.run_ok (v := .slice Ax l.length cx) (by simp [execOp, Rg.ev, go_sem, q1]) ⟨rfl, hR, Ext.rfl' _⟩
        refine ⟨Rg.at_run [32] rfl ?_, ?_⟩
        · intro ρ W hR ⟨q32, _⟩
          replace q32 : ρ 32 = .slice Ax l.length cx := q32
          refine ⟨rfl, ?_⟩
          refine Rg.enter_fn (args := #[(.slice Ax l.length cx)]) rfl (by simp only [List.map_toArray, List.map_cons, List.map_nil, Rg.ev, q32]) (by kernel_rfl) ?_
          refine (lputs_b (.slice Ax l.length cx) l W (by omega) (hxl.ext hR) hl).mono ?_
          rintro e_ w9 ⟨m_, A_, c_, hm_, rfl, ha_, hxx⟩
          obtain rfl : m_ = lput l := hm_.out
          exact ⟨_, rfl, ⟨ha_.bs, ha_.off (fun j hj => by have := List.mem_singleton.1 hj; have h1 := hgdW; have h2 := hR.size; omega)⟩, hR.trans' hxx, hxx⟩
        trivial
      case en =>
        intro tm W hR hsz hk
        rw [Rg.fin_eq (ds := [28, 29, 30, 31, 32, 33]) rfl rfl rfl hsz hk]
        have k28 : tm.getD 28 undef = .pointer (some ⟨gs, 0, none⟩) := hk 28
        have k29 : tm.getD 29 undef = .pointer (some ⟨gs, 0, none⟩) := hk 29
        have k30 : tm.getD 30 undef = .pointer (some ⟨gs, 0, none⟩) := hk 30
        have k31 : tm.getD 31 undef = .pointer (some ⟨gd, 0, none⟩) := hk 31
        have k32 : tm.getD 32 undef = .slice Ax l.length cx := hk 32
        have k33 : (fun v W => Bs W v (lput l) ∧ Off v [gd]) (tm.getD 33 undef) W := hk 33
        clear hk hsz
        simp only [Rg.putAll, List.setIfInBounds_toArray, List.set_cons_zero, List.set_cons_succ, k28, k29, k30, k31, k32]
        clear k28
        clear k29
        clear k30
        clear k31
        clear k32
        generalize tm.getD 33 undef = u33 at *
        obtain ⟨hb33, ho33⟩ := k33
        obtain ⟨A33, c33, rfl, -, -, -⟩ := id hb33
        have hll := lput_len (l := l) fun r hr => (hl r hr).2
        go_wp2_with fail
        refine (disk_append gd v (.slice A33 (lput l).length c33) d (lput l) W (hD4.ext hR) hb33 ho33 (by omega)).mono ?_
        rintro e W5 ⟨rfl, v', hd5, hc5, hn5⟩
        obtain ⟨⟨d1, e1⟩, hq1⟩ : ∃ r, d.op (d.b.length + (lput l).length) (Dk.app (lput l)) (Dk.app (lput l)) = r := ⟨_, rfl⟩
        rw [hq1] at hSD hd5 ⊢
        have HQ1 := hide hq1
        clear hq1
        simp only at hd5 ⊢
        have hn6 : ∀ j, v'.ownBlock = some j → v.ownBlock = some j ∨ (w4.heap.size ≤ j ∧ j < W5.heap.size) := fun j hj => (hn5 j hj).imp id fun h => by have := hR.size; omega
        rcases Bool.eq_false_or_eq_true (e1 == 0) with he | he
        · have hS5 := (hS.ext hR).chg hc5 hne_
          have b0 := (hS5.blk.cell 0).trans rfl
          have HE : Hid (sd = d1.op 0 Dk.last id) := hide (by rw [hSD.out, if_neg (by simp), if_pos (by simpa using he)])
          go_wp2_with fail
          refine (disk_sync gd v' d1 W5 hd5).mono ?_
          rintro e W6 ⟨rfl, v6, hd6, hc6, hn7⟩
          go_wp2_with fail
          go_meet
          case rel => exact ⟨v6, by rw [HE.out], by rw [HE.out]; exact hd6, ((hR.chg [gd]).trans hc5).trans hc6, fun j hj => by
            rcases hn7 j hj with h | h
            · exact (hn6 j h).imp id fun h => by have h3 := hc6.size; omega
            · have h1 := hR.size; have h2 := hc5.size; exact .inr (by omega)⟩
        · have HE : Hid (sd = (d1, e1)) := hide (by rw [hSD.out, if_neg (by simp), if_neg (by simpa using he)])
          go_wp2_with fail
          go_meet
          case rel => exact ⟨v', by rw [HE.out], by rw [HE.out]; exact hd5, (hR.chg [gd]).trans hc5, hn6⟩
  case rest =>
    obtain ⟨v', rfl, hD5, hc5, hn5⟩ := hcut
    have hN5 := hN.chg hc5 (by simp; omega)
    have hS5 := hS4.chg hc5 hne_
    have hnb5 := hnb.chg hc5 (fun j hj _ => .inl (.inl (.inr (List.mem_singleton.1 hj))))
    have hne5 := hnen.chg hc5 (fun j hj _ => .inl (.inr (List.mem_singleton.1 hj)))
    have hS5X := ((bsx_or hS.bs hsX).ext hx3).chg hc5 (fun j hj _ => .inl (.inr (List.mem_singleton.1 hj)))
    have hE5X := ((sl_or hS.es heX).ext hx3).chg hc5 (fun j hj _ => .inl (.inr (List.mem_singleton.1 hj)))
    have hv5X : ∀ j, v'.ownBlock = some j → ¬ X j := fun j hj hx => by
      rcases hn5 j hj with h | h
      · exact hvX j h hx
      · have h1 := hX j hx; have h2 := hx3.size; omega
    have hsz5 := hc5.size
    have hv5 : ∀ j, v'.ownBlock = some j → j ≠ gs := fun j hj => by
      rcases hn5 j hj with h | h
      · exact hvd j h
      · omega
    have hvl : ∀ j, v'.ownBlock = some j → j < wc.heap.size := fun j hj => by
      rcases hn5 j hj with h9 | h9
      · have := h.lt j h9; have := hx3.size; omega
      · omega
    have hcw : Chg [gs, gd] w wc := (hx3.chg [gs, gd]).trans (hc5.mono fun j hj => by simp at hj; simp [hj])
    generalize wc = W6 at *
    obtain ⟨d6, e6⟩ := sd
    simp only at hD5 HS ⊢
    rcases Bool.eq_false_or_eq_true (e6 == 0) with he | he
    · have HS2 : Hid (sv = (d6, nx, e6)) := hide (by rw [HS.out, if_pos (by simpa using he)])
      have c0 := (hN5.cell 0).trans rfl
      have c1 := (hN5.cell 1).trans rfl
      have c2 := (hN5.cell 2).trans rfl
      have c3 := (hN5.cell 3).trans rfl
      have c4 := (hN5.cell 4).trans rfl
      have c5 := (hN5.cell 5).trans rfl
      have b1 := (hS5.blk.cell 1).trans rfl
      have b2 := (hS5.blk.cell 2).trans rfl
      have b3 := (hS5.blk.cell 3).trans rfl
      have b4 := (hS5.blk.cell 4).trans rfl
      have b5 := (hS5.blk.cell 5).trans rfl
      have b6 := (hS5.blk.cell 6).trans rfl
      have f1 := hS5.blk.frozen 1
      have f2 := hS5.blk.frozen 2
      have f3 := hS5.blk.frozen 3
      have f4 := hS5.blk.frozen 4
      have f5 := hS5.blk.frozen 5
      have f6 := hS5.blk.frozen 6
      go_wp2_with fail
      go_ret
      rw [HS2.out]
      have hcg : Chg [gs] W6 ((((((W6.setCell ⟨gs, 1, none⟩ (.int .u64 nx.hard.term)).setCell ⟨gs, 2, none⟩ (.int .i64 nx.hard.vote)).setCell ⟨gs, 3, none⟩ (.int .u64 nx.snap.index)).setCell ⟨gs, 4, none⟩ (.int .u64 nx.snap.term)).setCell ⟨gs, 5, none⟩ (.slice An nx.snap.state.length cn)).setCell ⟨gs, 6, none⟩ (.slice Bn nx.ents.length dn)) :=
        ((((((Chg.refl _ _).set (by simp) _).set (by simp) _).set (by simp) _).set (by simp) _).set (by simp) _).set (by simp) _
      refine ⟨v', An, cn, Bn, dn, rfl, ⟨hD5.chg hcg (by simpa using hne_.symm) (Off.of_own fun j hj hm => hv5 j hj (List.mem_singleton.1 hm)), ⟨(((((hS5.blk.set_ 1 _).set_ 2 _).set_ 3 _).set_ 4 _).set_ 5 _).set_ 6 _, (hnb5.chg hcg (fun j hj _ => .inl (.inl (.inl (List.mem_singleton.1 hj))))).mono (fun j _ h => .inl (.inl h)), (hne5.chg hcg (fun j hj _ => .inl (.inl (List.mem_singleton.1 hj)))).mono (fun j _ h => .inl h)⟩, hne_, hv5, hnw, fun j hj => Nat.lt_of_lt_of_le (hvl j hj) hcg.size⟩, hcw.trans (hcg.mono fun j hj => by simp at hj; simp [hj]), (hnb5.chg hcg (fun j hj _ => .inl (.inl (.inl (List.mem_singleton.1 hj))))).mono (fun j _ h => .inl (.inr h)), (hne5.chg hcg (fun j hj _ => .inl (.inl (List.mem_singleton.1 hj)))).mono (fun j _ h => .inr h), hv5X⟩
    · have HS2 : Hid (sv = (d6, k, e6)) := hide (by rw [HS.out, if_neg (by simpa using he)])
      go_wp2
      go_ret
      rw [HS2.out]
      exact ⟨v', As, cs, Ae, ce, rfl, ⟨hD5, hS5, hne_, hv5, hkw, hvl⟩, hcw, hS5X.mono (fun j _ h => .inr h), hE5X.mono (fun j _ h => .inr h), hv5X⟩
end Go.Proofs.Ytboncnlcomeahaa

/- The law StoreLasts' walk. -/
namespace Go.Proofs.Ytboncnlcomeahaa
set_option linter.unusedVariables false
set_option linter.unusedSimpArgs false
set_option linter.unnecessarySimpa false
set_option maxRecDepth 100000
open Go.RowKit
theorem rr_at {w : World} {X : Avoid} {A : Option Addr} {n c k : Nat} {l : List (List Rec)} (h : Enc.Sl (Enc.slice reE) w X (.slice A n c) l) (hk : k < l.length) : ∃ (ad : Addr) (q : List Rec) (v : Value), A = some ad ∧ Hid (l[k]? = some q) ∧ ad.block < w.heap.size ∧
    w.cell? (ad.add k) = some v ∧ Enc.Sl reE w X v q := by
  obtain ⟨ad, cs, rfl, hrep, hb, hcell⟩ := h.at_ hk
  obtain ⟨v, rfl, h1⟩ := hrep
  have h2 := Enc.cell0 hcell (u := v) rfl
  rw [show k * (Enc.slice reE).size = k from Nat.mul_one k] at h2
  exact ⟨ad, _, v, rfl, hide (List.getElem?_eq_getElem hk), hb, h2, h1⟩
abbrev X3 (gs gd gk : Nat) : Avoid := fun j => j = gs ∨ j = gd ∨ j = gk
def LastAt (w wr : World) (gs gd gk n : Nat) : Prop := ∃ (d : Dk) (k : Kp) (v : Value) (As : Option Addr) (cs : Nat) (Ae : Option Addr) (ce : Nat), StD wr gs gd k d v As cs Ae ce ∧ Hid (d.aw k n) ∧ RfAt (X3 gs gd gk) wr gk k ∧ Ext w wr ∧
  Enc.BsX wr (fun j => j = gk) (.slice As k.snap.state.length cs) k.snap.state ∧ Enc.Sl enE wr (fun j => j = gk) (.slice Ae k.ents.length ce) k.ents ∧ ∀ j, v.ownBlock = some j → ¬ j = gk
theorem stD_off {w w' : World} {gs gd gk : Nat} {k : Kp} {d : Dk} {v : Value} {As Ae : Option Addr} {cs ce : Nat} (h : StD w gs gd k d v As cs Ae ce) (hc : Chg [gk] w w') (h1 : gs ≠ gk) (h2 : gd ≠ gk)
    (hs : Enc.BsX w (fun j => j = gk) (.slice As k.snap.state.length cs) k.snap.state) (he : Enc.Sl enE w (fun j => j = gk) (.slice Ae k.ents.length ce) k.ents) (hv : ∀ j, v.ownBlock = some j → ¬ j = gk) : StD w' gs gd k d v As cs Ae ce :=
  ⟨h.disk.chg hc (by simpa using h2) (Off.of_own fun j hj hm => hv j hj (List.mem_singleton.1 hm)), ⟨h.so.blk.chg hc (by simpa using h1), ((bsx_or h.so.bs hs).chg hc (fun j hj _ => .inr (List.mem_singleton.1 hj))).mono (fun j _ h => .inl h), ((sl_or h.so.es he).chg hc (fun j hj _ => .inr (List.mem_singleton.1 hj))).mono (fun j _ h => .inl h)⟩, h.ne, h.own, h.wide, fun j hj => Nat.lt_of_lt_of_le (h.lt j hj) hc.size⟩
set_option maxHeartbeats 12800000 in
theorem storeLasts_walk (xl : Value) (l : List (List Rec)) (at_ part : Int) (w : World) (hl : Enc.Sl (Enc.slice reE) w noneAt xl l) (hat : -9223372036854775808 ≤ at_ ∧ at_ ≤ 9223372036854775807) (hpt : -9223372036854775808 ≤ part ∧ part ≤ 9223372036854775807) :
    Calls Try.prog 8 #[xl, .int .i64 at_, .int .i64 part] w fun e w' => e = .returned (.bool true) ∧ Ext w w' := by
  have HO1 := hide (fun (W : World) (g : Nat) hD => open_b g (.slice none 0 0) Dk.new 0 W hD rfl (fun j h => by cases h) (by rw [show Dk.new.b = [] from rfl, scan_nil]; simp) (by rw [show Dk.new.b = [] from rfl, scan_nil]; simp) (by omega) (by simp [Dk.new]))
  rw [show openD Dk.new = (Dk.new, 0) by unfold openD; rw [show Dk.new.b = [] from rfl, scan_nil]; rfl, show kfold Kp0 (scan Dk.new.b).1 = Kp0 by rw [show Dk.new.b = [] from rfl, scan_nil]; rfl] at HO1
  obtain ⟨k1, hk1⟩ : ∃ k, Kp0 = k := ⟨_, rfl⟩
  rw [hk1] at HO1
  have hs1 : k1.small 0 := by rw [← hk1]; exact Kp0.small_
  have HK1 := hide hk1
  clear hk1
  obtain ⟨Ax, cx, rfl, -, -⟩ := hl.form
  go_enter Try.func8, Try.ntmps8
  go_wp2_with fail
  refine (begun23_b w).mono ?_
  rintro e w2 ⟨rfl, hx⟩
  by_cases hlen : (l.length : Int) ≤ 10
  case neg =>
    go_wp2
    go_ret
    exact ⟨rfl, hx⟩
  go_wp2_with fail
  refine (disk_new w2).mono ?_
  rintro e w3 ⟨rfl, hw3⟩
  have hD := new_at w2
  rw [← hw3] at hD
  have hx3 : Ext w w3 := by rw [hw3]; exact hx.trans' ((Ext.rfl' _).alloc' _)
  obtain ⟨gd, hgd⟩ : ∃ g, w2.heap.size = g := ⟨_, rfl⟩
  rw [hgd] at hD ⊢
  have hgdw : w.heap.size ≤ gd := by have := hx.size; omega
  clear hw3 hgd hx
  go_wp2_with fail
  refine (HO1.out w3 gd hD).mono ?_
  rintro e w4 (⟨-, gs, v4, As, cs, Ae, ce, Am, cm, Bm, dm, rfl, hS, hgs, hb2, he2, hc2⟩ | ⟨h, -⟩)
  case inr => exact absurd rfl h
  have hgsw : w.heap.size ≤ gs := by have := hx3.size; omega
  have hx4 : Ext w w4 := hx3.then_ hc2 (by simpa using hgdw)
  clear hD hc2 hb2 he2 hx3
  obtain ⟨g3, hg3⟩ : ∃ g, w4.heap.size = g := ⟨_, rfl⟩
  have hz : Ext w4 (w4.alloc (.cells #[.int .u64 k1.hard.term, .int .i64 k1.hard.vote, .int .u64 k1.snap.index, .int .u64 k1.snap.term, .slice Am k1.snap.state.length cm, .slice Bm k1.ents.length dm] 33)) := (Ext.rfl' _).alloc' _
  go_upto_region 7 with fail
  try rw [hg3]
  generalize (w4.alloc (.cells #[.int .u64 k1.hard.term, .int .i64 k1.hard.vote, .int .u64 k1.snap.index, .int .u64 k1.snap.term, .slice Am k1.snap.state.length cm, .slice Bm k1.ents.length dm] 33)) = w5 at *
  replace hS := hS.ext hz
  have hx5 := hx4.trans' hz
  clear hz hg3 hx4
  go_wp2_with fail
  refine (disk_arm gd v4 Dk.new at_ part w5 hS.disk hat hpt).mono ?_
  rintro e w6 ⟨rfl, hd6⟩
  obtain ⟨v6, hS6, hc6⟩ := hS.to hd6
  have hx6 := hx5.then_ hc6 (by simpa using hgdw)
  clear hS hc6 hd6 hx5
  have HAW : Hid ((Dk.new.arm at_ part).aw k1 0) := hide (by rw [← HK1.out]; exact (whole_new.aw).arm at_ part)
  obtain ⟨gk, hgk⟩ : ∃ g, w6.heap.size = g := ⟨_, rfl⟩
  have hz : Ext w6 (w6.alloc (.cells zKept 33)) := (Ext.rfl' _).alloc' _
  have hB := Blk.new w6 33 zKept
  rw [hgk] at hB
  have hgsk : gs < gk := by rw [← hgk]; exact hS6.so.blk.lt
  have hgdk : gd < gk := by rw [← hgk]; exact hS6.disk.blk.lt
  have hgkw : w.heap.size ≤ gk := by omega
  have hgsd := hS6.ne
  go_upto_region 11 with fail
  try rw [hgk]
  generalize (w6.alloc (.cells zKept 33)) = w7 at *
  have hF7 : RfAt (X3 gs gd gk) w7 gk k1 := by
    rw [← HK1.out]
    exact ⟨none, 0, none, 0, hB, Enc.BsX.nil _ _, Enc.Sl.nil _ _ _⟩
  have hL7 : LastAt w w7 gs gd gk 0 := ⟨_, k1, v6, As, cs, Ae, ce, hS6.ext hz, HAW, hF7, hx6.trans' hz, (hS6.so.bs.mono (Y := fun j => j = gk) (fun j hj h => by omega)).ext hz, (hS6.so.es.mono (Y := fun j => j = gk) (fun j hj h => by omega)).ext hz, fun j hj h => by have := hS6.lt j hj; omega⟩
  clear hB hF7 hS6 hx6 hgk hz HAW HO1 HK1 hs1
  go_wp2_with fail
  go_loopw [12] (fun i wr => ∃ m : Nat, (m : Int) ≤ l.length ∧ i = .int .i64 m ∧ LastAt w wr gs gd gk (22 * m)) (fun i _ => (l.length - intOf i).toNat)
  case atStart => exact ⟨0, by omega, rfl, hL7⟩
  case round =>
    clear hL7
    obtain ⟨m, hm, rfl, d, k, v, As, cs, Ae, ce, hS, HAW, hF, hx, hsX, heX, hvX⟩ := hrel
    have hm10 : m ≤ 10 := by omega
    by_cases hlt : (m : Int) < l.length
    · obtain ⟨ad, lm, xv, rfl, hlm, hbk, p0, hxv⟩ := rr_at hl (k := m) (by omega)
      have HLT := hide hlt
      obtain ⟨B, cB, rfl, -, -⟩ := hxv.form
      have hm0 : (0 : Int) ≤ m := by omega
      have hml : (m : Int) < l.length := hlt
      clear hlt
      have q0 := (hx.cell (p := ad.add m) (by rw [block_of_add]; exact hbk)).trans p0
      go_wp2_with fail
      refine (plain_b (.slice B lm.length cB) lm wr (hxv.ext hx)).mono ?_
      rintro e w1 ⟨b, rfl, hx_, hp_⟩
      cases b with
      | false =>
        go_wp2
        go_ret
        exact ⟨rfl, hx.trans' hx_⟩
      | true =>
        have hp := hp_ rfl
        clear hp_ q0
        replace hS := hS.ext hx_
        replace hF := hF.ext hx_
        replace hsX := hsX.ext hx_
        replace heX := heX.ext hx_
        replace hx := hx.trans' hx_
        clear hx_
        have hwl : ∀ r ∈ lm, r.wide := Sl.wides hxv
        have hll : ∀ r ∈ lm, (r.wide ∧ r.small) ∧ may r = true := fun r hr => ⟨⟨hwl r hr, hp.small r hr⟩, hp.may r hr⟩
        have hnl := hp.len
        clear hp hwl
        have hks := HAW.out.kp.2.2.1
        have hkw := HAW.out.kp.2.1
        have q0 := (hx.cell (p := ad.add m) (by rw [block_of_add]; exact hbk)).trans p0
        go_wp2_with fail
        refine (saveX_b (fun j => j = gk) gs gd k d v As Ae cs ce (.slice B lm.length cB) lm (22 * m) w1 hS (fun j hj => by obtain ⟨_, _, _, _, h, -⟩ := hF; rw [hj]; exact h.lt) hsX heX hvX hks ((hxv.mono (Y := fun j => XS gs gd j ∨ j = gk) (fun j hj h => by rcases h with (h | h) | h <;> omega)).ext hx) (fun r hr => (hll r hr).1) (by omega)).mono ?_
        rintro e w3 ⟨v3, As3, cs3, Ae3, ce3, rfl, hS3, hc3, hsX3, heX3, hvX3⟩
        have hF3 := hF
        obtain ⟨Af, cf, Bf, df, f1, f2, f3⟩ := hF3
        have hX3 : ∀ j, j ∈ [gs, gd] → j < w1.heap.size → X3 gs gd gk j := fun j hj _ => by simp at hj; exact hj.elim .inl fun h => .inr (.inl h)
        replace f1 := f1.chg hc3 (by simp; omega)
        replace f2 := f2.chg hc3 hX3
        replace f3 := f3.chg hc3 hX3
        replace hx := hx.then_ hc3 (fun j hj => by simp at hj; rcases hj with h | h <;> omega)
        clear hF q0 hS hc3 hX3 hsX heX hvX
        rcases save_cases HAW.out hll (by omega) with ⟨hsv, haw⟩ | ⟨hsv, hhf⟩
        · obtain ⟨⟨d2, k2, e2⟩, hq⟩ : ∃ q, save d k lm = q := ⟨_, rfl⟩
          rw [hq] at hsv haw hS3 hsX3 heX3 ⊢
          simp only at hsv haw hS3 hsX3 heX3 ⊢
          obtain ⟨h1_, rfl⟩ := Prod.mk.inj hsv
          rw [← h1_] at haw
          have HKN := hide h1_.symm
          have HAW2 := hide haw
          clear hsv h1_ haw hq
          go_upto_region 17 with fail
          refine Rg.regionT Try.checked.mixed 114 5 (by kernel_rfl) [
            (fun x_ _ => x_ = .agg #[.int .u64 k.hard.term, .int .i64 k.hard.vote, .int .u64 k.snap.index, .int .u64 k.snap.term, .slice Af k.snap.state.length cf, .slice Bf k.ents.length df]),
            (fun x_ _ => x_ = .slice (some ad) l.length cx),
            (fun x_ _ => x_ = .int .i64 m),
            (fun x_ _ => x_ = .pointer (some (ad.add m))),
            (fun x_ _ => x_ = .slice B lm.length cB)] (fun W => Ext w3 W) Ext rfl rfl rfl
            ?st ((Ext.rfl' w3).drew') ?ob ?en
          case st => exact ⟨fun _ _ _ h _ => h, fun _ _ _ h _ => h, fun _ _ _ h _ => h, fun _ _ _ h _ => h, fun _ _ _ h _ => h, trivial⟩
          case ob =>
            refine ⟨Rg.at_run [11] rfl ?_, ?_⟩
            · intro ρ W hR ⟨q11, _⟩
              replace q11 : ρ 11 = .pointer (some ⟨gk, 0, none⟩) := q11
              refine ⟨rfl, ?_⟩
              have c0_ : W.cell? ⟨gk, 0, none⟩ = some (.int .u64 k.hard.term) := ((f1.ext hR).cell 0).trans rfl
              have c1_ : W.cell? ⟨gk, 1, none⟩ = some (.int .i64 k.hard.vote) := ((f1.ext hR).cell 1).trans rfl
              have c2_ : W.cell? ⟨gk, 2, none⟩ = some (.int .u64 k.snap.index) := ((f1.ext hR).cell 2).trans rfl
              have c3_ : W.cell? ⟨gk, 3, none⟩ = some (.int .u64 k.snap.term) := ((f1.ext hR).cell 3).trans rfl
              have c4_ : W.cell? ⟨gk, 4, none⟩ = some (.slice Af k.snap.state.length cf) := ((f1.ext hR).cell 4).trans rfl
              have c5_ : W.cell? ⟨gk, 5, none⟩ = some (.slice Bf k.ents.length df) := ((f1.ext hR).cell 5).trans rfl
              exact Rg.run_ok (v := .agg #[.int .u64 k.hard.term, .int .i64 k.hard.vote, .int .u64 k.snap.index, .int .u64 k.snap.term, .slice Af k.snap.state.length cf, .slice Bf k.ents.length df]) (by simp [execOp, Rg.ev, go_sem, q11, c0_, c1_, c2_, c3_, c4_, c5_]) ⟨rfl, hR, Ext.rfl' _⟩
            refine ⟨Rg.at_run [0] rfl ?_, ?_⟩
            · intro ρ W hR ⟨q0, _⟩
              replace q0 : ρ 0 = .slice (some ad) l.length cx := q0
              refine ⟨rfl, ?_⟩
              exact Rg.run_ok (v := .slice (some ad) l.length cx) (by simp [execOp, Rg.ev, go_sem, q0]) ⟨rfl, hR, Ext.rfl' _⟩
            refine ⟨Rg.at_run [12] rfl ?_, ?_⟩
            · intro ρ W hR ⟨q12, _⟩
              replace q12 : ρ 12 = .int .i64 m := q12
              refine ⟨rfl, ?_⟩
              exact Rg.run_ok (v := .int .i64 m) (by simp [execOp, Rg.ev, go_sem, q12]) ⟨rfl, hR, Ext.rfl' _⟩
            refine ⟨Rg.at_run [62, 63] rfl ?_, ?_⟩
            · intro ρ W hR ⟨q62, q63, _⟩
              replace q62 : ρ 62 = .slice (some ad) l.length cx := q62
              replace q63 : ρ 63 = .int .i64 m := q63
              refine ⟨rfl, ?_⟩
              exact Rg.run_ok (v := .pointer (some (ad.add m))) (by simp [execOp, Rg.ev, go_sem, q62, q63, hm0, hml]) ⟨rfl, hR, Ext.rfl' _⟩
            refine ⟨Rg.at_run [64] rfl ?_, ?_⟩
            · intro ρ W hR ⟨q64, _⟩
              replace q64 : ρ 64 = .pointer (some (ad.add m)) := q64
              refine ⟨rfl, ?_⟩
              have c_ : W.cell? (ad.add m) = some (.slice B lm.length cB) := ((hx.trans' hR).cell (p := ad.add m) (by rw [block_of_add]; exact hbk)).trans p0
              exact Rg.run_ok (v := .slice B lm.length cB) (by simp [execOp, Rg.ev, go_sem, q64, c_]) ⟨rfl, hR, Ext.rfl' _⟩
            trivial
          case en =>
            intro tm W hR hsz hk
            rw [Rg.fin_eq (ds := [61, 62, 63, 64, 65]) rfl rfl rfl hsz hk]
            have k61 : tm.getD 61 undef = .agg #[.int .u64 k.hard.term, .int .i64 k.hard.vote, .int .u64 k.snap.index, .int .u64 k.snap.term, .slice Af k.snap.state.length cf, .slice Bf k.ents.length df] := hk 61
            have k62 : tm.getD 62 undef = .slice (some ad) l.length cx := hk 62
            have k63 : tm.getD 63 undef = .int .i64 m := hk 63
            have k64 : tm.getD 64 undef = .pointer (some (ad.add m)) := hk 64
            have k65 : tm.getD 65 undef = .slice B lm.length cB := hk 65
            clear hk hsz
            simp only [Rg.putAll, List.setIfInBounds_toArray, List.set_cons_zero, List.set_cons_succ, k61, k62, k63, k64, k65]
            clear k61
            clear k62
            clear k63
            clear k64
            clear k65

            go_wp2_with fail
            refine (fold_b (X3 gs gd gk) k (.slice Af k.snap.state.length cf) (.slice Bf k.ents.length df) (.slice B lm.length cB) lm (22 * m) W (fun j hj => by have h1 := (f1.ext hR).lt; rcases hj with h | h | h <;> omega) hkw hks (f2.ext hR) (f3.ext hR) ((hxv.mono (Y := X3 gs gd gk) (fun j hj h => by rcases h with h | h | h <;> omega)).ext (hx.trans' hR)) (fun r hr => (hll r hr).1) (by omega)).mono ?_
            rw [HKN.out]
            rintro e w5 ⟨As2, cs2, Ae2, ce2, rfl, hs2, ho2, hx2⟩
            have hRx := hR.trans' hx2
            have hM5 := f1.ext hRx
            replace hs2 := hs2.mono (Y := X3 gs gd gk) (fun j _ h => .inl h)
            have he2 := ho2.sl
            have hS5 := hS3.ext hRx
            have hsX5 := hsX3.ext hRx
            have heX5 := heX3.ext hRx
            replace hx := hx.trans' hRx
            clear ho2 f2 f3 f1 hS3
            have a0 := (hM5.cell 0).trans rfl
            have fa0 := hM5.frozen 0
            have a1 := (hM5.cell 1).trans rfl
            have fa1 := hM5.frozen 1
            have a2 := (hM5.cell 2).trans rfl
            have fa2 := hM5.frozen 2
            have a3 := (hM5.cell 3).trans rfl
            have fa3 := hM5.frozen 3
            have a4 := (hM5.cell 4).trans rfl
            have fa4 := hM5.frozen 4
            have a5 := (hM5.cell 5).trans rfl
            have fa5 := hM5.frozen 5
            go_wp2_with fail
            have hcg : Chg [gk] w5 _ := (Chg.refl [gk] w5).sixK (g := gk) (by simp) (.int .u64 k2.hard.term) (.int .i64 k2.hard.vote) (.int .u64 k2.snap.index) (.int .u64 k2.snap.term) (.slice As2 k2.snap.state.length cs2) (.slice Ae2 k2.ents.length ce2)
            have hB6 := Blk.sixK hM5 (.int .u64 k2.hard.term) (.int .i64 k2.hard.vote) (.int .u64 k2.snap.index) (.int .u64 k2.snap.term) (.slice As2 k2.snap.state.length cs2) (.slice Ae2 k2.ents.length ce2)
            have hX9 : ∀ j, j ∈ [gk] → j < w5.heap.size → X3 gs gd gk j := fun j hj _ => .inr (.inr (List.mem_singleton.1 hj))
            go_roundw
            case rel => exact ⟨m + 1, by have := HLT.out; omega, by go_num, _, k2, v3, _, _, _, _, stD_off hS5 hcg (by omega) (by omega) hsX5 heX5 hvX3, hide (HAW2.out.mono (by omega)), ⟨_, _, _, _, hB6, hs2.chg hcg hX9, he2.chg hcg hX9⟩, hx.then_ hcg (by simp; omega), hsX5.chg hcg (fun j hj _ => List.mem_singleton.1 hj), heX5.chg hcg (fun j hj _ => List.mem_singleton.1 hj), hvX3⟩
            case measure => have := HLT.out; simp [intOf]; omega
        · obtain ⟨⟨d2, k2, e2⟩, hq⟩ : ∃ q, save d k lm = q := ⟨_, rfl⟩
          rw [hq] at hsv hhf hS3 ⊢
          simp only at hsv hhf hS3 ⊢
          obtain ⟨rfl, rfl⟩ := Prod.mk.inj hsv
          clear hsv hsX3 heX3 hvX3
          obtain ⟨j, hjl, po, pw, pk, ps, pn, pb, pd⟩ := hhf.open_ hll (by omega)
          obtain ⟨kx, hkx⟩ : ∃ q, kfold k2 (lm.take j) = q := ⟨_, rfl⟩
          rw [hkx] at pk
          have HKX := hide hkx
          have HO := hide (fun (W : World) v hD hv => open2_b gd v d2.power (22 * m + lm.length) W hD pd hv ps pn (by omega) (by omega))
          rw [pk] at HO
          obtain ⟨⟨dz, ez⟩, hoz⟩ : ∃ q, openD d2.power = q := ⟨_, rfl⟩
          rw [hoz] at HO po
          simp only at po
          subst po
          clear hkx pk ps pn pb pd pw hoz hhf hq
          go_wp2_with fail
          refine (disk_power gd v3 d2 w3 hS3.disk).mono ?_
          rintro e w4 ⟨rfl, hd4⟩
          obtain ⟨v4, hS4, hc4⟩ := hS3.to hd4
          have hX4 : ∀ j, j ∈ [gd] → ∀ n, j < n → X3 gs gd gk j := fun j hj _ _ => .inr (.inl (List.mem_singleton.1 hj))
          replace f1 := f1.chg hc4 (by simp; omega)
          replace f2 := f2.chg hc4 (fun j hj => hX4 j hj _)
          replace f3 := f3.chg hc4 (fun j hj => hX4 j hj _)
          replace hx := hx.then_ hc4 (by simpa using hgdw)
          clear hS3 hc4 hd4
          go_wp2_with fail
          refine (HO.out w4 v4 hS4.disk hS4.lt).mono ?_
          rintro e w5 (⟨-, gt, vt, At_, ct_, Aet, cet, At, ct, Bt, dt, rfl, hSt, hgt, hbt, het, hct⟩ | ⟨h, -⟩)
          case inr => exact absurd rfl h
          replace f1 := f1.chg hct (by simp; omega)
          replace f2 := (f2.chg hct (fun j hj => hX4 j hj _)).1
          replace f3 := slN (f3.chg hct (fun j hj => hX4 j hj _))
          replace hx := hx.then_ hct (by simpa using hgdw)
          replace hbt : Bs w5 _ _ := hbt.1
          replace het := slN het
          clear hS4 hct hX4 hSt
          obtain ⟨gx, hgx⟩ : ∃ g, w5.heap.size = g := ⟨_, rfl⟩
          have hQ := Blk.new w5 33 #[.int .u64 kx.hard.term, .int .i64 kx.hard.vote, .int .u64 kx.snap.index, .int .u64 kx.snap.term, .slice At kx.snap.state.length ct, .slice Bt kx.ents.length dt]
          rw [hgx] at hQ
          have hz : Ext w5 (w5.alloc (.cells #[.int .u64 kx.hard.term, .int .i64 kx.hard.vote, .int .u64 kx.snap.index, .int .u64 kx.snap.term, .slice At kx.snap.state.length ct, .slice Bt kx.ents.length dt] 33)) := (Ext.rfl' _).alloc' _
          go_upto_region 20 with fail
          try rw [hgx]
          generalize (w5.alloc (.cells #[.int .u64 kx.hard.term, .int .i64 kx.hard.vote, .int .u64 kx.snap.index, .int .u64 kx.snap.term, .slice At kx.snap.state.length ct, .slice Bt kx.ents.length dt] 33)) = w6 at *
          replace f1 := f1.ext hz
          replace f2 := f2.ext hz
          replace f3 := f3.ext hz
          replace hx := hx.trans' hz
          replace hbt := hbt.ext hz
          replace het := het.ext hz
          clear hz hgx
          go_wp2_with fail
          go_loopw [16] (fun i wr => ∃ q : Nat, q ≤ j ∧ i = .int .i64 q ∧ Ext w6 wr) (fun i _ => (j + 1 - intOf i).toNat)
          case atStart => exact ⟨0, by omega, rfl, Ext.rfl' _⟩
          case round =>
            obtain ⟨q, hqj, rfl, hxr⟩ := hrel
            have q0 := ((hx.trans' hxr).cell (p := ad.add m) (by rw [block_of_add]; exact hbk)).trans p0
            have hql : (q : Int) ≤ lm.length := by omega
            have hq0 : (0 : Int) ≤ q := by omega
            have HJL := hide hjl
            obtain ⟨i0, hi0, hz0, hz1, hz2⟩ := info_parts elt_re.info
            have hcB : lm.length ≤ cB := by obtain ⟨-, h, -⟩ := hxv.inv; exact h
            have hsl := fun W => run_sl_h (P := Try.prog) (A := B) (n := lm.length) (c := cB) (hi := (q : Int)) (kh := .i64) Try.underlying22 hi0 hz1 q rfl (by omega) W
            have hfr := Sl.front hxv (k := q) (by omega)
            have hlq : (lm.take q).length = q := by rw [List.length_take]; omega
            obtain ⟨kq, hkq⟩ : ∃ z, kfold k2 (lm.take q) = z := ⟨_, rfl⟩
            have HKQ := hide hkq
            clear hkq hcB
            go_upto_region 25 with fail
            refine Rg.regionT Try.checked.mixed 114 10 (by kernel_rfl) [
              (fun x_ _ => x_ = .agg #[.int .u64 kx.hard.term, .int .i64 kx.hard.vote, .int .u64 kx.snap.index, .int .u64 kx.snap.term, .slice At kx.snap.state.length ct, .slice Bt kx.ents.length dt]),
              (fun x_ _ => x_ = .agg #[.int .u64 k2.hard.term, .int .i64 k2.hard.vote, .int .u64 k2.snap.index, .int .u64 k2.snap.term, .slice Af k2.snap.state.length cf, .slice Bf k2.ents.length df]),
              (fun x_ _ => x_ = .slice (some ad) l.length cx),
              (fun x_ _ => x_ = .int .i64 m),
              (fun x_ _ => x_ = .pointer (some (ad.add m))),
              (fun x_ _ => x_ = .slice B lm.length cB),
              (fun x_ _ => x_ = .int .i64 q),
              (fun x_ _ => x_ = .slice B q cB),
              (fun v W => ∃ A c B d, v = .agg #[.int .u64 kq.hard.term, .int .i64 kq.hard.vote, .int .u64 kq.snap.index, .int .u64 kq.snap.term, .slice A kq.snap.state.length c, .slice B kq.ents.length d] ∧ Bs W (.slice A kq.snap.state.length c) kq.snap.state ∧ Enc.Sl enE W noneAt (.slice B kq.ents.length d) kq.ents),
              (fun v W => ∃ b : Bool, v = .bool b ∧ (kx = kq → b = true))] (fun W => Ext wr W) Ext rfl rfl rfl
              ?st ((Ext.rfl' wr).drew') ?ob ?en
            case st => exact ⟨fun _ _ _ h _ => h, fun _ _ _ h _ => h, fun _ _ _ h _ => h, fun _ _ _ h _ => h, fun _ _ _ h _ => h, fun _ _ _ h _ => h, fun _ _ _ h _ => h, fun _ _ _ h _ => h, fun _ _ _ ⟨a1_, a2_, a3_, a4_, h1_, h2_, h3_⟩ hx => ⟨a1_, a2_, a3_, a4_, h1_, h2_.ext hx, h3_.ext hx⟩, fun _ _ _ h _ => h, trivial⟩
            case ob =>
              refine ⟨Rg.at_run [14] rfl ?_, ?_⟩
              · intro ρ W hR ⟨q14, _⟩
                replace q14 : ρ 14 = .pointer (some ⟨gx, 0, none⟩) := q14
                refine ⟨rfl, ?_⟩
                have c0_ : W.cell? ⟨gx, 0, none⟩ = some (.int .u64 kx.hard.term) := (((hQ.ext hxr).ext hR).cell 0).trans rfl
                have c1_ : W.cell? ⟨gx, 1, none⟩ = some (.int .i64 kx.hard.vote) := (((hQ.ext hxr).ext hR).cell 1).trans rfl
                have c2_ : W.cell? ⟨gx, 2, none⟩ = some (.int .u64 kx.snap.index) := (((hQ.ext hxr).ext hR).cell 2).trans rfl
                have c3_ : W.cell? ⟨gx, 3, none⟩ = some (.int .u64 kx.snap.term) := (((hQ.ext hxr).ext hR).cell 3).trans rfl
                have c4_ : W.cell? ⟨gx, 4, none⟩ = some (.slice At kx.snap.state.length ct) := (((hQ.ext hxr).ext hR).cell 4).trans rfl
                have c5_ : W.cell? ⟨gx, 5, none⟩ = some (.slice Bt kx.ents.length dt) := (((hQ.ext hxr).ext hR).cell 5).trans rfl
                exact Rg.run_ok (v := .agg #[.int .u64 kx.hard.term, .int .i64 kx.hard.vote, .int .u64 kx.snap.index, .int .u64 kx.snap.term, .slice At kx.snap.state.length ct, .slice Bt kx.ents.length dt]) (by simp [execOp, Rg.ev, go_sem, q14, c0_, c1_, c2_, c3_, c4_, c5_]) ⟨rfl, hR, Ext.rfl' _⟩
              refine ⟨Rg.at_run [11] rfl ?_, ?_⟩
              · intro ρ W hR ⟨q11, _⟩
                replace q11 : ρ 11 = .pointer (some ⟨gk, 0, none⟩) := q11
                refine ⟨rfl, ?_⟩
                have c0_ : W.cell? ⟨gk, 0, none⟩ = some (.int .u64 k2.hard.term) := (((f1.ext hxr).ext hR).cell 0).trans rfl
                have c1_ : W.cell? ⟨gk, 1, none⟩ = some (.int .i64 k2.hard.vote) := (((f1.ext hxr).ext hR).cell 1).trans rfl
                have c2_ : W.cell? ⟨gk, 2, none⟩ = some (.int .u64 k2.snap.index) := (((f1.ext hxr).ext hR).cell 2).trans rfl
                have c3_ : W.cell? ⟨gk, 3, none⟩ = some (.int .u64 k2.snap.term) := (((f1.ext hxr).ext hR).cell 3).trans rfl
                have c4_ : W.cell? ⟨gk, 4, none⟩ = some (.slice Af k2.snap.state.length cf) := (((f1.ext hxr).ext hR).cell 4).trans rfl
                have c5_ : W.cell? ⟨gk, 5, none⟩ = some (.slice Bf k2.ents.length df) := (((f1.ext hxr).ext hR).cell 5).trans rfl
                exact Rg.run_ok (v := .agg #[.int .u64 k2.hard.term, .int .i64 k2.hard.vote, .int .u64 k2.snap.index, .int .u64 k2.snap.term, .slice Af k2.snap.state.length cf, .slice Bf k2.ents.length df]) (by simp [execOp, Rg.ev, go_sem, q11, c0_, c1_, c2_, c3_, c4_, c5_]) ⟨rfl, hR, Ext.rfl' _⟩
              refine ⟨Rg.at_run [0] rfl ?_, ?_⟩
              · intro ρ W hR ⟨q0, _⟩
                replace q0 : ρ 0 = .slice (some ad) l.length cx := q0
                refine ⟨rfl, ?_⟩
                exact Rg.run_ok (v := .slice (some ad) l.length cx) (by simp [execOp, Rg.ev, go_sem, q0]) ⟨rfl, hR, Ext.rfl' _⟩
              refine ⟨Rg.at_run [12] rfl ?_, ?_⟩
              · intro ρ W hR ⟨q12, _⟩
                replace q12 : ρ 12 = .int .i64 m := q12
                refine ⟨rfl, ?_⟩
                exact Rg.run_ok (v := .int .i64 m) (by simp [execOp, Rg.ev, go_sem, q12]) ⟨rfl, hR, Ext.rfl' _⟩
              refine ⟨Rg.at_run [88, 89] rfl ?_, ?_⟩
              · intro ρ W hR ⟨q88, q89, _⟩
                replace q88 : ρ 88 = .slice (some ad) l.length cx := q88
                replace q89 : ρ 89 = .int .i64 m := q89
                refine ⟨rfl, ?_⟩
                exact Rg.run_ok (v := .pointer (some (ad.add m))) (by simp [execOp, Rg.ev, go_sem, q88, q89, hm0, hml]) ⟨rfl, hR, Ext.rfl' _⟩
              refine ⟨Rg.at_run [90] rfl ?_, ?_⟩
              · intro ρ W hR ⟨q90, _⟩
                replace q90 : ρ 90 = .pointer (some (ad.add m)) := q90
                refine ⟨rfl, ?_⟩
                have c_ : W.cell? (ad.add m) = some (.slice B lm.length cB) := (((hx.trans' hxr).trans' hR).cell (p := ad.add m) (by rw [block_of_add]; exact hbk)).trans p0
                exact Rg.run_ok (v := .slice B lm.length cB) (by simp [execOp, Rg.ev, go_sem, q90, c_]) ⟨rfl, hR, Ext.rfl' _⟩
              refine ⟨Rg.at_run [16] rfl ?_, ?_⟩
              · intro ρ W hR ⟨q16, _⟩
                replace q16 : ρ 16 = .int .i64 q := q16
                refine ⟨rfl, ?_⟩
                exact Rg.run_ok (v := .int .i64 q) (by simp [execOp, Rg.ev, go_sem, q16]) ⟨rfl, hR, Ext.rfl' _⟩
              refine ⟨Rg.at_run [91, 92] rfl ?_, ?_⟩
              · intro ρ W hR ⟨q91, q92, _⟩
                replace q91 : ρ 91 = .slice B lm.length cB := q91
                replace q92 : ρ 92 = .int .i64 q := q92
                refine ⟨rfl, ?_⟩
                exact Rg.run_ok (v := .slice B q cB) (by simp only [execOp, Rg.ev, q91, q92, Option.map_some, Option.map_none]; simp [hsl]) ⟨rfl, hR, Ext.rfl' _⟩
              refine ⟨Rg.at_run [87, 93] rfl ?_, ?_⟩
              · intro ρ W hR ⟨q87, q93, _⟩
                replace q87 : ρ 87 = .agg #[.int .u64 k2.hard.term, .int .i64 k2.hard.vote, .int .u64 k2.snap.index, .int .u64 k2.snap.term, .slice Af k2.snap.state.length cf, .slice Bf k2.ents.length df] := q87
                replace q93 : ρ 93 = .slice B q cB := q93
                refine ⟨rfl, ?_⟩
                refine Rg.enter_fn (args := #[.agg #[.int .u64 k2.hard.term, .int .i64 k2.hard.vote, .int .u64 k2.snap.index, .int .u64 k2.snap.term, .slice Af k2.snap.state.length cf, .slice Bf k2.ents.length df], .slice B q cB]) rfl (by simp only [List.map_toArray, List.map_cons, List.map_nil, Rg.ev, q87, q93]) (by kernel_rfl) ?_
                refine (fold_b noneAt k2 (.slice Af k2.snap.state.length cf) (.slice Bf k2.ents.length df) (.slice B q cB) (lm.take q) (22 * m) W (fun _ h => h.elim) hkw hks (.of (f2.ext (hxr.trans' hR))) (f3.ext (hxr.trans' hR)) (hfr.ext ((hx.trans' hxr).trans' hR)) (fun r hr => (hll r (List.mem_of_mem_take hr)).1) (by omega)).mono ?_
                rw [HKQ.out]
                rintro e_ w9 ⟨A_, c_, B_, d_, rfl, h1_, h2_, hxx⟩
                exact ⟨_, rfl, ⟨_, _, _, _, rfl, h1_.1, (h2_.sl.mono fun _ _ h => h.elim)⟩, hR.trans' hxx, hxx⟩
              refine ⟨Rg.at_run [86, 94] rfl ?_, ?_⟩
              · intro ρ W hR ⟨q86, q94, _⟩
                replace q86 : ρ 86 = .agg #[.int .u64 kx.hard.term, .int .i64 kx.hard.vote, .int .u64 kx.snap.index, .int .u64 kx.snap.term, .slice At kx.snap.state.length ct, .slice Bt kx.ents.length dt] := q86
                replace q94 : (fun v W => ∃ A c B d, v = .agg #[.int .u64 kq.hard.term, .int .i64 kq.hard.vote, .int .u64 kq.snap.index, .int .u64 kq.snap.term, .slice A kq.snap.state.length c, .slice B kq.ents.length d] ∧ Bs W (.slice A kq.snap.state.length c) kq.snap.state ∧ Enc.Sl enE W noneAt (.slice B kq.ents.length d) kq.ents) (ρ 94) W := q94
                refine ⟨rfl, ?_⟩
                obtain ⟨A9, c9, B9, d9, hv9, hb9, hl9⟩ := q94
                refine Rg.enter_fn (args := #[.agg #[.int .u64 kx.hard.term, .int .i64 kx.hard.vote, .int .u64 kx.snap.index, .int .u64 kx.snap.term, .slice At kx.snap.state.length ct, .slice Bt kx.ents.length dt], .agg #[.int .u64 kq.hard.term, .int .i64 kq.hard.vote, .int .u64 kq.snap.index, .int .u64 kq.snap.term, .slice A9 kq.snap.state.length c9, .slice B9 kq.ents.length d9]]) rfl (by simp only [List.map_toArray, List.map_cons, List.map_nil, Rg.ev, q86, hv9]) (by kernel_rfl) ?_
                refine (sameKeptG_b kx kq _ _ _ _ W (hbt.ext (hxr.trans' hR)) hb9 (het.ext (hxr.trans' hR)) hl9).mono ?_
                rintro e_ w9 ⟨b_, rfl, hxx, hb_⟩
                exact ⟨_, rfl, ⟨b_, rfl, fun h => hb_.out.2 h⟩, hR.trans' hxx, hxx⟩
              trivial
            case en =>
              intro tm W hR hsz hk
              rw [Rg.fin_eq (ds := [86, 87, 88, 89, 90, 91, 92, 93, 94, 95]) rfl rfl rfl hsz hk]
              have k86 : tm.getD 86 undef = .agg #[.int .u64 kx.hard.term, .int .i64 kx.hard.vote, .int .u64 kx.snap.index, .int .u64 kx.snap.term, .slice At kx.snap.state.length ct, .slice Bt kx.ents.length dt] := hk 86
              have k87 : tm.getD 87 undef = .agg #[.int .u64 k2.hard.term, .int .i64 k2.hard.vote, .int .u64 k2.snap.index, .int .u64 k2.snap.term, .slice Af k2.snap.state.length cf, .slice Bf k2.ents.length df] := hk 87
              have k88 : tm.getD 88 undef = .slice (some ad) l.length cx := hk 88
              have k89 : tm.getD 89 undef = .int .i64 m := hk 89
              have k90 : tm.getD 90 undef = .pointer (some (ad.add m)) := hk 90
              have k91 : tm.getD 91 undef = .slice B lm.length cB := hk 91
              have k92 : tm.getD 92 undef = .int .i64 q := hk 92
              have k93 : tm.getD 93 undef = .slice B q cB := hk 93
              have k94 : (fun v W => ∃ A c B d, v = .agg #[.int .u64 kq.hard.term, .int .i64 kq.hard.vote, .int .u64 kq.snap.index, .int .u64 kq.snap.term, .slice A kq.snap.state.length c, .slice B kq.ents.length d] ∧ Bs W (.slice A kq.snap.state.length c) kq.snap.state ∧ Enc.Sl enE W noneAt (.slice B kq.ents.length d) kq.ents) (tm.getD 94 undef) W := hk 94
              have k95 : (fun v W => ∃ b : Bool, v = .bool b ∧ (kx = kq → b = true)) (tm.getD 95 undef) W := hk 95
              clear hk hsz
              simp only [Rg.putAll, List.setIfInBounds_toArray, List.set_cons_zero, List.set_cons_succ, k86, k87, k88, k89, k90, k91, k92, k93]
              clear k86
              clear k87
              clear k88
              clear k89
              clear k90
              clear k91
              clear k92
              clear k93
              generalize tm.getD 94 undef = u94 at *
              generalize tm.getD 95 undef = u95 at *
              refine Rg.nil_list ?_

              obtain ⟨b, rfl, hb⟩ := k95
              clear k94
              cases b with
              | true =>
                go_wp2
                go_ret
                exact ⟨rfl, (hx.trans' hxr).trans' hR⟩
              | false =>
                have hne : Hid (q ≠ j) := hide (fun h => by
                  have := hb (by rw [← HKX.out, ← HKQ.out, h])
                  cases this)
                go_wp2_with fail
                go_roundw
                case rel => exact ⟨q + 1, by have := hne.out; omega, by go_num, hxr.trans' hR⟩
                case measure => have := hne.out; simp [intOf]; omega
    · obtain rfl : m = l.length := by omega
      have hks := HAW.out.kp.2.2.1
      obtain ⟨Af, cf, Bf, df, f1, f2, f3⟩ := hF
      have hkw := HAW.out.kp.2.1
      obtain ⟨j, -, po, -, pk, ps, pn, pb, pd⟩ := (HAW.out.crash [] part).open_ (by simp) (by simp; omega)
      rw [List.take_nil, kfold_nil] at pk
      simp only [List.length_nil, Nat.add_zero] at pn pb
      have HO := hide (fun (W : World) v hD hv => open2_b gd v (d.crash part).power (22 * l.length) W hD pd hv ps pn (by omega) (by omega))
      rw [pk] at HO
      obtain ⟨⟨dz, ez⟩, hoz⟩ : ∃ q, openD (d.crash part).power = q := ⟨_, rfl⟩
      rw [hoz] at HO po
      simp only at po
      subst po
      clear pk ps pn pb pd hoz hsX heX hvX
      go_wp2_with fail
      refine (disk_crash gd v d part wr hS.disk hpt).mono ?_
      rintro e w3 ⟨rfl, hd3⟩
      obtain ⟨v3, hS3, hc3⟩ := hS.to hd3
      have hX4 : ∀ j, j ∈ [gd] → ∀ n, j < n → X3 gs gd gk j := fun j hj _ _ => .inr (.inl (List.mem_singleton.1 hj))
      replace f1 := f1.chg hc3 (by simp; omega)
      replace f2 := f2.chg hc3 (fun j hj => hX4 j hj _)
      replace f3 := f3.chg hc3 (fun j hj => hX4 j hj _)
      replace hx := hx.then_ hc3 (by simpa using hgdw)
      clear hS hc3 hd3
      go_wp2_with fail
      refine (disk_power gd v3 (d.crash part) w3 hS3.disk).mono ?_
      rintro e w4 ⟨rfl, hd4⟩
      obtain ⟨v4, hS4, hc4⟩ := hS3.to hd4
      replace f1 := f1.chg hc4 (by simp; omega)
      replace f2 := f2.chg hc4 (fun j hj => hX4 j hj _)
      replace f3 := f3.chg hc4 (fun j hj => hX4 j hj _)
      replace hx := hx.then_ hc4 (by simpa using hgdw)
      clear hS3 hc4 hd4
      go_wp2_with fail
      refine (HO.out w4 v4 hS4.disk hS4.lt).mono ?_
      rintro e w5 (⟨-, gt, vt, At_, ct_, Aet, cet, At, ct, Bt, dt, rfl, hSt, hgt, hbt, het, hct⟩ | ⟨h, -⟩)
      case inr => exact absurd rfl h
      replace f1 := f1.chg hct (by simp; omega)
      replace f2 := (f2.chg hct (fun j hj => hX4 j hj _)).1
      replace f3 := slN (f3.chg hct (fun j hj => hX4 j hj _))
      replace hx := hx.then_ hct (by simpa using hgdw)
      replace hbt : Bs w5 _ _ := hbt.1
      replace het := slN het
      clear hS4 hct hX4 hSt
      obtain ⟨gx, hgx⟩ : ∃ g, w5.heap.size = g := ⟨_, rfl⟩
      have hQ := Blk.new w5 33 #[.int .u64 k.hard.term, .int .i64 k.hard.vote, .int .u64 k.snap.index, .int .u64 k.snap.term, .slice At k.snap.state.length ct, .slice Bt k.ents.length dt]
      rw [hgx] at hQ
      have hz : Ext w5 (w5.alloc (.cells #[.int .u64 k.hard.term, .int .i64 k.hard.vote, .int .u64 k.snap.index, .int .u64 k.snap.term, .slice At k.snap.state.length ct, .slice Bt k.ents.length dt] 33)) := (Ext.rfl' _).alloc' _
      go_upto_region 31 with fail
      try rw [hgx]
      generalize (w5.alloc (.cells #[.int .u64 k.hard.term, .int .i64 k.hard.vote, .int .u64 k.snap.index, .int .u64 k.snap.term, .slice At k.snap.state.length ct, .slice Bt k.ents.length dt] 33)) = w6 at *
      replace f1 := f1.ext hz
      replace f2 := f2.ext hz
      replace f3 := f3.ext hz
      replace hx := hx.trans' hz
      replace hbt := hbt.ext hz
      replace het := het.ext hz
      clear hz hgx
      have a0 := (hQ.cell 0).trans rfl
      have a1 := (hQ.cell 1).trans rfl
      have a2 := (hQ.cell 2).trans rfl
      have a3 := (hQ.cell 3).trans rfl
      have a4 := (hQ.cell 4).trans rfl
      have a5 := (hQ.cell 5).trans rfl
      have b0 := (f1.cell 0).trans rfl
      have b1 := (f1.cell 1).trans rfl
      have b2 := (f1.cell 2).trans rfl
      have b3 := (f1.cell 3).trans rfl
      have b4 := (f1.cell 4).trans rfl
      have b5 := (f1.cell 5).trans rfl
      go_wp2_with fail
      refine (sameKept_b k _ _ _ _ w6 hbt f2 het f3).mono ?_
      rintro e w9 ⟨rfl, hx9⟩
      go_wp2
      go_ret
      exact ⟨rfl, hx.trans' hx9⟩
end Go.Proofs.Ytboncnlcomeahaa

/- The statement 'StoreLastsSaid': whatever is handed in, the law answers true, and what was handed in is as it was. -/
namespace Go.Proofs.Ytboncnlcomeahaa.storeLasts
set_option linter.unusedVariables false
set_option linter.unusedSimpArgs false
set_option linter.unnecessarySimpa false
set_option maxRecDepth 100000
open Go.ChangeShapes Go.WideShapes Go.ChangeAt Go.RowKit
open Go.ChangeMaps (open_string shut_string)

set_option maxRecDepth 100000 in
set_option maxHeartbeats 2000000 in
theorem lifted (os : Os) (started : os.Started) (H : Type) (enc : TypeId × Value → H) :
    ReturnsInHanded {} Try.checked os 8 .any (Rows.storeLastsSpec.pre6 enc Try.prog Try.f8 Rows.storeLastsRow.domain false) (Rows.storeLastsSpec.post enc Try.prog Try.f8 false true false false) := by
  refine returnsInHanded_of_change (C := Try.checked) own started (by kernel_rfl) Try.func8
    (ChangeSpec.witness6 (enc := enc) (C := Try.checked) false ⟨#[], #[.slice none 0 0, .int .i64 0, .int .i64 0], []⟩ 8 (by kernel_rfl) (by kernel_rfl) (by kernel_rfl) (by kernel_rfl)) ?_
  intro W base args ds gs before hval0 hW hcnd _
  have hval : ∀ (j : Nat) t v, Try.f8.params[j]? = some t → args[j]? = some v → Value.okWide Try.prog W .any base t v := hval0
  have hW' := hW
  obtain ⟨p, q, hA0, hV, rfl, hfz, hnd⟩ := hW
  have hA : DataW.TrodAll enc Try.prog W 0 (fun _ => true) true Try.f8.params.toList args.toList ds p := hA0
  rw [Try.params8] at hA hval
  obtain ⟨v0, vs0, d0, ds0, p0, q0, hargs, rfl, rfl, h0, r0⟩ := trodAll_cons hA
  obtain ⟨v1, vs1, d1, ds1, p1, q1, rfl, rfl, rfl, h1, r1⟩ := trodAll_cons r0
  obtain ⟨v2, vs2, d2, ds2, p2, q2, rfl, rfl, rfl, h2, r2⟩ := trodAll_cons r1
  obtain ⟨rfl, rfl, rfl⟩ := trodAll_nil r2
  obtain rfl : args = #[v0, v1, v2] := by cases args; simp_all
  obtain ⟨rfl, rfl⟩ := trodVars_none hV
  have k0 := h0
  have lt0 : ∀ x ∈ p0, x.block < W.heap.size := by obtain ⟨m, hm⟩ := k0; exact DataW.trod_lt m _ _ _ hm
  obtain ⟨a0, len0, cap0, rfl⟩ := okWide_slice Try.underlying69 (hval 0 69 v0 rfl rfl)
  obtain ⟨b0, hb0⟩ : ∃ b, Enc.Sl (Enc.slice reE) W noneAt (.slice a0 len0 cap0) b := by
    obtain ⟨fuel, hf⟩ := h0
    obtain ⟨b, v, hv, hs⟩ := (Enc.opens_slice Try.underlying69 (by kernel_rfl) (by decide) (Enc.opens_slice Try.underlying22 (by kernel_rfl) (by decide) reE_opens)) _ enc W fuel _ _ hf
    obtain rfl : Value.slice a0 len0 cap0 = v := by simpa [Value.cells] using hv
    exact ⟨b, hs⟩
  obtain ⟨a1, rfl, rfl, rfl, w1⟩ := open_int Try.underlying3 (hval 1 3 v1 rfl rfl) h1
  have i1 := w1
  simp [Lit.wf, IntKind.min, IntKind.max, IntKind.bits, IntKind.signed] at i1
  obtain ⟨a2, rfl, rfl, rfl, w2⟩ := open_int Try.underlying3 (hval 2 3 v2 rfl rfl) h2
  have i2 := w2
  simp [Lit.wf, IntKind.min, IntKind.max, IntKind.bits, IntKind.signed] at i2
  clear hA0 hval0
  refine (storeLasts_walk _ b0 a1 a2 W hb0 i1 i2).mono fun e W' ⟨he, bel⟩ => ?_
  subst he
  exact ⟨_, rfl, _, _, _, [], _, [], hW', trodAll_mk1 (shut_bool Try.underlying4 _), (trodAll_cons_mk (Below.trod laidOut (by kernel_rfl) (of_decide_eq_true (by kernel_rfl)) k0 bel lt0) (trodAll_cons_mk (shut_int Try.underlying3 w1) (trodAll_cons_mk (shut_int Try.underlying3 w2) trodAll_mk0))), rfl, bel.frame _, fun h => by cases h⟩

theorem over : Rows.storeLastsRow.holds Try.pinned (OpenSpec.ofChange Rows.storeLastsSpec) :=
  OpenClaim.holds_of_wide 8 Try.f8 rfl rfl rfl rfl rfl rfl rfl ⟨rfl, rfl, rfl, rfl, rfl⟩ rfl rfl rfl rfl rfl (by kernel_rfl) Try.func8 (by kernel_rfl)
    (of_decide_eq_true (by kernel_rfl)) (by unfold Func.isWrapper; first | (rw [if_pos (by decide +kernel)]; kernel_rfl) | (rw [if_neg (by decide +kernel)]; exact ⟨rfl, rfl⟩))
    (fun os started H enc _ => lifted os started H enc)

/-- THE STATEMENT -/
theorem proved : Rows.StoreLastsSaid := over
#print axioms proved
end Go.Proofs.Ytboncnlcomeahaa.storeLasts

