import Derived.Test.YtboncnlcomeahaaPk7
import Derived.Test.YtboncnlcomeahaaPk12
import Derived.Test.YtboncnlcomeahaaPk16
import Derived.Laws.Rows
import Derived.Laws.Tables
import Derived.Tactics2
import Derived.Test.YtboncnlcomeahaaPk13
import Derived.Test.YtboncnlcomeahaaPk14
/- What a disk says: how values of it read; copies of it. -/
namespace Go.Proofs.Ytboncnlcomeahaa
set_option linter.unusedVariables false
set_option linter.unusedSimpArgs false
set_option linter.unnecessarySimpa false
set_option maxRecDepth 100000
open Go.RowKit
abbrev kpE : Enc Kp := Enc.map (.pair hdE (.pair snE (.pair (.slice enE) .unit))) fun k => (k.hard, k.snap, k.ents, ())
abbrev kpcells (k : Kp) (vs ve : Value) : List Value := [.int .u64 k.hard.term, .int .i64 k.hard.vote, .int .u64 k.snap.index, .int .u64 k.snap.term, vs, ve]
theorem kp_rep {w : World} {X : Avoid} {cs : List Value} {k : Kp} : kpE.rep w X cs k ↔ ∃ vs ve, cs = kpcells k vs ve ∧ k.wide ∧ Enc.BsX w X vs k.snap.state ∧ Enc.Sl enE w X ve k.ents := by
  constructor
  · rintro ⟨c1, c2, rfl, ⟨a1, a2, rfl, ⟨rfl, h1⟩, a3, a4, rfl, ⟨rfl, h2⟩, rfl⟩, c3, c4, rfl, ⟨b1, b2, rfl, ⟨rfl, h3⟩, b3, b4, rfl, ⟨rfl, h4⟩, b5, b6, rfl, ⟨v1, rfl, h5⟩, rfl⟩, c5, c6, rfl, ⟨v2, rfl, h6⟩, rfl⟩
    exact ⟨v1, v2, rfl, ⟨h1.1, h1.2, h2.1, h2.2, h3.1, h3.2, h4.1, h4.2⟩, h5, h6⟩
  · rintro ⟨vs, ve, rfl, ⟨t0, t1, v0, v1, n0, n1, s0, s1⟩, h5, h6⟩
    exact ⟨[_, _], [_, _, _, _], rfl, ⟨[_], [_], rfl, ⟨rfl, t0, t1⟩, [_], [], rfl, ⟨rfl, v0, v1⟩, rfl⟩, [_, _, _], [_], rfl, ⟨[_], [_, _], rfl, ⟨rfl, n0, n1⟩, [_], [_], rfl, ⟨rfl, s0, s1⟩, [_], [], rfl, ⟨_, rfl, h5⟩, rfl⟩, [_], [], rfl, ⟨_, rfl, h6⟩, rfl⟩
theorem Blk.sixK {w : World} {g : Nat} {T : TypeId} {x0 x1 x2 x3 x4 x5 : Value} (h : Blk w g T #[x0, x1, x2, x3, x4, x5]) (a b c d e f : Value) :
    Blk ((((((w.setCell ⟨g, 0, none⟩ a).setCell ⟨g, 1, none⟩ b).setCell ⟨g, 2, none⟩ c).setCell ⟨g, 3, none⟩ d).setCell ⟨g, 4, none⟩ e).setCell ⟨g, 5, none⟩ f) g T #[a, b, c, d, e, f] := (((((h.set_ 0 a).set_ 1 b).set_ 2 c).set_ 3 d).set_ 4 e).set_ 5 f
theorem Chg.sixK {S : List Nat} {w0 w : World} {g : Nat} (h : Chg S w0 w) (hg : g ∈ S) (a b c d e f : Value) :
    Chg S w0 ((((((w.setCell ⟨g, 0, none⟩ a).setCell ⟨g, 1, none⟩ b).setCell ⟨g, 2, none⟩ c).setCell ⟨g, 3, none⟩ d).setCell ⟨g, 4, none⟩ e).setCell ⟨g, 5, none⟩ f) := (((((h.set hg _).set hg _).set hg _).set hg _).set hg _).set hg _
def RetOwnG {α : Type} (T : TypeId) (E : Enc α) (w w' : World) (X : Avoid) (e : Ending) (l : List α) : Prop := ∃ (A : Option Addr) (c : Nat), e = .returned (.slice A l.length c) ∧ Own T E w w' X (.slice A l.length c) l ∧ Ext w w'
theorem RetOwnG.mk {α : Type} {T : TypeId} {E : Enc α} {w w' : World} {X : Avoid} {y : Value} {l : List α} (h : Own T E w w' X y l) (hx : Ext w w') : RetOwnG T E w w' X (.returned y) l := by
  obtain ⟨A, c, rfl, _⟩ := h.form
  exact ⟨A, c, rfl, h, hx⟩
theorem sl_noneG {α : Type} {E : Enc α} {w : World} {X : Avoid} {c : Nat} {l : List α} (h : Enc.Sl E w X (.slice none l.length c) l) : l = [] := by
  obtain ⟨A, c', css, he, _, _, h3, _⟩ := h
  simp only [Value.slice.injEq] at he
  obtain ⟨rfl, _, _⟩ := he
  rcases Nat.eq_zero_or_pos l.length with h0 | h0
  · exact List.eq_nil_of_length_eq_zero h0
  · obtain ⟨_, h, _⟩ := h3.2 h0; cases h
theorem own_litG (w : World) : ∀ i, (Value.slice (some ⟨w.heap.size, 0, none⟩) 0 0).ownBlock = some i → w.heap.size ≤ i := fun i hi => Nat.le_of_eq (Option.some.inj hi)
theorem Sl.apartG {α : Type} {E : Enc α} {w0 w : World} {X : Avoid} {v x : Value} {k : List α} (hx : Enc.Sl E w0 X x k) (hx0 : Ext w0 w) (h : ∀ i, v.ownBlock = some i → w0.heap.size ≤ i) : Enc.Sl E w (fun k => X k ∨ v.ownBlock = some k) x k :=
  (hx.mono fun i hi hm => by
    rcases hm with hm | hm
    · exact hm
    · have := h i hm; omega).ext hx0
set_option maxHeartbeats 800000 in
theorem cloneX_en (X : Avoid) (w : World) (hX : ∀ k, X k → k < w.heap.size) (x : Value) (l : List En) (hl : l.length ≤ 100000) (hx : Enc.Sl enE w X x l) :
    Calls Try.prog 60 #[x] w fun e w' => RetOwnG 36 enE w w' X e l := by
  obtain ⟨A, c, rfl, k1, k2⟩ := hx.form
  have q := fun (w : World) (a : Option Addr) (n c n' c' : Nat) => Lib.run_eql_slice_nil (P := Try.prog) w _ _ a n c n' c' Try.underlying31
  generalize hn : l.length = n at *
  have HN := hide hn
  clear hn
  rcases A with _ | ad
  · go_enter Try.func60, Try.ntmps60
    go_wp2
    go_ret
    have h0 : l = [] := sl_noneG (by rw [HN.out]; exact hx)
    subst h0
    exact RetOwnG.mk (Own.nil _ _ _ _ _) (Ext.rfl' _)
  · go_enter Try.func60, Try.ntmps60
    go_wp2_with (at_builtin; refine wpList_own elt_en 31 Try.underlying31 rfl _ _ rfl (Own.lit0 (w0 := w) (X := X) _ _ (Ext.rfl' w) _ rfl (fun h => Nat.lt_irrefl _ (hX _ h))) rfl ((Ext.rfl' w).alloc' _) (m := l) rfl (Sl.apartG (w0 := w) hx ((Ext.rfl' w).alloc' _) (own_litG w)) (fun h => by have := hX _ h; simp at this; omega) (by have := HN.out; simp only [List.length_nil]; omega) (by have := HN.out; simp only [List.length_nil]; omega) ?_; intro k A2 c2 w2 hk hown hxx _)
    go_ret
    have hk' : k = l := hk.out
    subst hk'
    exact RetOwnG.mk hown hxx
end Go.Proofs.Ytboncnlcomeahaa

/- The walk is stopped where two values have been boxed: the world behind it is any world that has them. -/
namespace Go.Proofs.Ytboncnlcomeahaa
set_option linter.unusedVariables false
set_option linter.unusedSimpArgs false
set_option linter.unnecessarySimpa false
set_option maxRecDepth 100000
open Go.RowKit
/-- p, where no walk goes on -/
def Stop (p : Prop) : Prop := p
theorem two_stop {P : Program} {ops : Array Oper} {Q : Exit → Act → World → Prop} {l : List Oper} {a : Act} {w : World} {c1 c2 : Array Value} {T1 T2 : TypeId}
    (h : Stop (∀ (W : World) (g : Nat), w.heap.size = g → Blk W g T1 c1 → Blk W (g + 1) T2 c2 → Ext w W → wpList P ops Q l a W)) :
    wpList P ops Q l a ((w.alloc (.cells c1 T1)).alloc (.cells c2 T2)) :=
  h _ _ rfl ((Blk.new w T1 c1).alloc _) (by have := Blk.new (w.alloc (.cells c1 T1)) T2 c2; simpa using this) (((Ext.rfl' w).alloc' _).alloc' _)
theorem one_stop {P : Program} {ops : Array Oper} {Q : Exit → Act → World → Prop} {l : List Oper} {a : Act} {w : World} {c1 : Array Value} {T1 : TypeId}
    (h : Stop (∀ (W : World) (g : Nat), w.heap.size = g → Blk W g T1 c1 → Ext w W → wpList P ops Q l a W)) :
    wpList P ops Q l a (w.alloc (.cells c1 T1)) :=
  h _ _ rfl (Blk.new w T1 c1) ((Ext.rfl' w).alloc' _)
end Go.Proofs.Ytboncnlcomeahaa

/- A whole row of cells written at once. -/
namespace Go.Proofs.Ytboncnlcomeahaa
set_option linter.unusedVariables false
set_option linter.unusedSimpArgs false
set_option linter.unnecessarySimpa false
set_option maxRecDepth 100000
open Go.RowKit
theorem Blk.row {W : World} {g : Nat} {T : TypeId} {old : Array Value} (h : Blk W g T old) (cs : Array Value) : Blk (W.setRow g cs) g T cs := setRow_heap W g old cs T (0, 0) h
theorem Chg.row {S : List Nat} {W0 W : World} {g : Nat} (h : Chg S W0 W) (hg : g ∈ S) (cs : Array Value) : Chg S W0 (W.setRow g cs) :=
  h.trans ⟨rfl, rfl, rfl, by simp, fun k _ hn => setRow_other W g k cs fun e => hn (e ▸ hg)⟩
section
variable {P : Program} {ops : Array Oper} {rest : List Oper} {o : Oper} {a : Act} {w : World} {Q : Exit → Act → World → Prop}
/-- a whole variable is read: no cell by itself -/
theorem ld_row (hw : Region.wanted o (yielded ops a.tmps) = true) (ty : TypeId) (x : Operand) (ho : o.op = .load ty x) (g : Nat) (hx : a.eval x = .pointer (some ⟨g, 0, none⟩)) (t : TypeId) (cs : Array Value) (d : TypeDesc) (hg : Blk w g t cs)
    (hu : P.underlying ty = some d) (hd : (match d with | .struct _ | .array _ _ => true | _ => false) = true) (hi : (P.info? ty).map (·.size) = some cs.size) (h : wpList P ops Q rest (a.put o.dst (.agg cs)) w) : wpList P ops Q (o :: rest) a w :=
  wpList_step fun K hK => by rw [if_pos hw]; exact wp_load_row ty x ho g hx t cs (0, 0) d hg hu hd hi (hK _ _ h)
/-- a whole variable is written -/
theorem st_row (hw : Region.wanted o (yielded ops a.tmps) = true) (ty : TypeId) (x y : Operand) (ho : o.op = .store ty x y) (g : Nat) (cells : Array Value) (hx : a.eval x = .pointer (some ⟨g, 0, none⟩)) (hy : a.eval y = .agg cells)
    (t : TypeId) (old : Array Value) (hg : Blk w g t old) (hi : (P.info? ty).map (·.size) = some cells.size) (hold : old.size = cells.size) (h1 : cells.all (·.oneCell') = true)
    (h : wpList P ops Q rest (a.put o.dst undef) (w.setRow g cells)) : wpList P ops Q (o :: rest) a w :=
  wpList_step fun K hK => by rw [if_pos hw]; exact wp_store_row ty x y ho g cells hx hy t old hg hi hold h1 (hK _ _ h)
/-- a whole variable is written, and the walk is stopped: the world behind it is any world that has it -/
theorem st_stop (hw : Region.wanted o (yielded ops a.tmps) = true) (ty : TypeId) (x y : Operand) (ho : o.op = .store ty x y) (g : Nat) (cells : Array Value) (hx : a.eval x = .pointer (some ⟨g, 0, none⟩)) (hy : a.eval y = .agg cells)
    (t : TypeId) (old : Array Value) (hg : Blk w g t old) (hi : (P.info? ty).map (·.size) = some cells.size) (hold : old.size = cells.size) (h1 : cells.all (·.oneCell') = true)
    (h : Stop (∀ W : World, Blk W g t cells → Chg [g] w W → wpList P ops Q rest (a.put o.dst undef) W)) : wpList P ops Q (o :: rest) a w :=
  st_row hw ty x y ho g cells hx hy t old hg hi hold h1 (h _ (hg.row cells) ((Chg.refl [g] w).row (by simp) cells))
end
end Go.Proofs.Ytboncnlcomeahaa

/- A whole variable is read in a drawn region. -/
namespace Go.Proofs.Ytboncnlcomeahaa.Rg
set_option linter.unusedVariables false
set_option linter.unusedSimpArgs false
set_option linter.unnecessarySimpa false
set_option maxRecDepth 100000
open Go.RowKit
theorem load_row {P : Program} {ρ : Tmp → Value} {W : World} {o : Oper} (ty : TypeId) (x : Operand) (ho : o.op = .load ty x) (g : Nat) (hx : ev ρ x = .pointer (some ⟨g, 0, none⟩)) (t : TypeId) (cs : Array Value) (d : TypeDesc) (hg : Blk W g t cs)
    (hu : P.underlying ty = some d) (hd : (match d with | .struct _ | .array _ _ => true | _ => false) = true) (hi : (P.info? ty).map (·.size) = some cs.size) :
    (execOp (ev ρ) o).run P W = .ok (.value (.agg cs)) W := by
  unfold execOp
  simp only [ho, hx, Instr.loadAt, Instr.sureAddr, Sem.run_bind, Sem.run_pure, Result.andThen_ok, run_loadVar_row W g t ty cs (0, 0) d hg hu hd hi]
/-- a function that is named is called in a drawn region -/
theorem enter_fn {P : Program} {ρ : Tmp → Value} {W : World} {o : Oper} {f : FuncId} {xs : Array Operand} {ts : Array TypeId} {args : Array Value} {K : Value → World → Prop} (ho : o.op = .call { callee := .value (.func f), args := xs, argTypes := ts })
    (ha : xs.map (ev ρ) = args) (hF : (callFunc f args).run P W = .ok (.enter f args) W) (hK : Calls P f args W fun e W'' => ∃ v, e = .returned v ∧ K v W'') : Run P o ρ W K :=
  run_enter (by subst ha; unfold execOp; simp [ho, go_sem, resolve, ev]; exact hF) hK
end Go.Proofs.Ytboncnlcomeahaa.Rg

/- What a disk says: copies of it. -/
namespace Go.Proofs.Ytboncnlcomeahaa
set_option linter.unusedVariables false
set_option linter.unusedSimpArgs false
set_option linter.unnecessarySimpa false
set_option maxRecDepth 100000
open Go.RowKit
abbrev XK (X : Avoid) (g : Nat) : Avoid := fun j => X j ∨ (g ≤ j ∧ j ≤ g + 1)
/-- a copy: its bytes and its entries lie in new memory -/
def RetKp (X : Avoid) (w w' : World) (e : Ending) (k : Kp) : Prop := ∃ (As : Option Addr) (cs : Nat) (Ae : Option Addr) (ce : Nat), e = .returned (.agg #[.int .u64 k.hard.term, .int .i64 k.hard.vote, .int .u64 k.snap.index, .int .u64 k.snap.term, .slice As k.snap.state.length cs, .slice Ae k.ents.length ce]) ∧
  Enc.BsX w' (fun j => X j ∨ (Value.slice Ae k.ents.length ce).ownBlock = some j) (.slice As k.snap.state.length cs) k.snap.state ∧ Own 36 enE w w' X (.slice Ae k.ents.length ce) k.ents ∧ Ext w w'
theorem two_alK (W : World) (T1 T2 : TypeId) (c1 c2 : Array Value) : Blk ((W.alloc (.cells c1 T1)).alloc (.cells c2 T2)) W.heap.size T1 c1 ∧ Blk ((W.alloc (.cells c1 T1)).alloc (.cells c2 T2)) (W.heap.size + 1) T2 c2 ∧ Ext W ((W.alloc (.cells c1 T1)).alloc (.cells c2 T2)) := by
  have h2 := Blk.new (W.alloc (.cells c1 T1)) T2 c2
  rw [show (W.alloc (.cells c1 T1)).heap.size = W.heap.size + 1 by simp] at h2
  exact ⟨(Blk.new W T1 c1).alloc _, h2, ((Ext.rfl' W).alloc' _).alloc' _⟩
theorem kp_apart {X Y : Avoid} {w0 w1 w : World} {v ve : Value} {l : Bytes} {es : List En} (h : Nw w1 w v l) (ho : Own 36 enE w0 w Y ve es) (hX : ∀ j, X j → j < w1.heap.size) : Enc.BsX w (fun j => X j ∨ ve.ownBlock = some j) v l := by
  refine ⟨h.bs, fun ad n c he h0 hx => ?_⟩
  rcases hx with hx | hx
  · have h1 := (h.lt ad.block (by rw [he]; rfl)).1
    have := hX _ hx
    omega
  · have hne : 0 < es.length := by
      rcases Nat.eq_zero_or_pos es.length with hz | hz
      · obtain ⟨css, ⟨_, h1⟩, -⟩ := ho
        rcases h1 with ⟨h1, _⟩ | ⟨g, cap, cur, h1, hg, hh, -⟩
        · rw [h1] at hx; cases hx
        · rw [h1] at hx
          obtain rfl : g = ad.block := Option.some.inj hx
          exact absurd (by rw [he]; rfl) (own_blk_ne h (t := 36) hh (by decide))
      · exact hz
    obtain ⟨g, cap, cur, css, rfl, hB, -⟩ := ho.openG hne
    obtain rfl : g = ad.block := Option.some.inj hx
    exact own_blk_ne h hB (by decide) (by rw [he]; rfl)
set_option maxHeartbeats 6400000 in
theorem copied_b (X : Avoid) (k : Kp) (vs ve : Value) (w : World) (hX : ∀ j, X j → j < w.heap.size) (hkw : k.wide) (hs : Enc.BsX w X vs k.snap.state) (he : Enc.Sl enE w X ve k.ents) (hl : k.ents.length ≤ 100000) (hsl : k.snap.state.length ≤ 1000000) (hdl : ∀ e ∈ k.ents, e.data.length ≤ 1000000) :
    Calls Try.prog 36 #[.agg (kpcells k vs ve).toArray] w fun e w' => RetKp X w w' e k := by
  obtain ⟨As0, cS0, rfl, -, -, -⟩ := id hs.1
  obtain ⟨Ae0, cE0, rfl, -, -⟩ := he.form
  obtain ⟨hB, hR_, hxw⟩ := two_alK w 33 33 (kpcells k (.slice As0 k.snap.state.length cS0) (.slice Ae0 k.ents.length cE0)).toArray #[.int .u64 0, .int .i64 0, .int .u64 0, .int .u64 0, .slice none 0 0, .slice none 0 0]
  obtain ⟨g, hg⟩ : ∃ g, w.heap.size = g := ⟨_, rfl⟩
  rw [hg] at hB hR_
  have hXl : ∀ j, X j → j < g := fun j hj => by rw [← hg]; exact hX j hj
  go_enter Try.func36, Try.ntmps36
  go_upto_region 1 with fail
  generalize ((w.alloc (.cells (kpcells k (.slice As0 k.snap.state.length cS0) (.slice Ae0 k.ents.length cE0)).toArray 33)).alloc (.cells #[.int .u64 0, .int .i64 0, .int .u64 0, .int .u64 0, .slice none 0 0, .slice none 0 0] 33)) = w1 at *
  try rw [hg]
  have hXK : ∀ W, Ext w1 W → ∀ j, XK X g j → j < W.heap.size := fun W hx j hj => by
    have h1 := hR_.lt
    have h2 := hx.size
    rcases hj with h | h
    · have := hXl j h; omega
    · omega
  have hs1 := (hs.mono (Y := XK X g) (fun j hj h => h.elim id fun h => by omega)).ext hxw
  have he1 := (he.mono (Y := XK X g) (fun j hj h => h.elim id fun h => by omega)).ext hxw
  have b4 := (hB.cell 4).trans rfl
  go_wp2_with fail
  refine (clone_b (.slice As0 k.snap.state.length cS0) k.snap.state w1 (by omega) hs1.1).mono ?_
  rintro e W2 ⟨m, As, cS, hm, rfl, hz, hx2⟩
  obtain rfl : m = k.snap.state := hm.out
  clear b4 hm
  replace hB := hB.ext hx2
  have f4 := hB.frozen 4
  have d4 := (hB.cell 4).trans rfl
  have hcg : Chg [g] W2 (W2.setCell ⟨g, 4, none⟩ (.slice As k.snap.state.length cS)) := (Chg.refl _ _).set (by simp) _
  replace hB := hB.set_ 4 (.slice As k.snap.state.length cS)
  change Blk _ g _ #[.int .u64 k.hard.term, .int .i64 k.hard.vote, .int .u64 k.snap.index, .int .u64 k.snap.term, .slice As k.snap.state.length cS, .slice Ae0 k.ents.length cE0] at hB
  replace hR_ := (hR_.ext hx2).chg hcg (by simp)
  replace he1 := (he1.ext hx2).chg hcg (fun j hj _ => .inr (by have := List.mem_singleton.1 hj; omega))
  have hbs : Nw w1 _ (.slice As k.snap.state.length cS) k.snap.state := hz.chg hcg (fun j hj hm => by have h1 := (hz.lt j hj).1; have h2 := List.mem_singleton.1 hm; have h3 := hXK w1 (Ext.rfl' _) g (.inr ⟨by omega, by omega⟩); omega)
  replace hxw := (hxw.trans' hx2).then_ hcg (by simp; omega)
  go_upto_region 2 with fail
  generalize W2.setCell ⟨g, 4, none⟩ (.slice As k.snap.state.length cS) = W3 at *
  clear hcg f4 d4 hx2 hz hs1
  have hXK3 : ∀ j, XK X g j → j < W3.heap.size := fun j hj => by
    have h1 := hR_.lt
    rcases hj with h | h
    · have := hXl j h; omega
    · omega
  have b5 := (hB.cell 5).trans rfl
  go_wp2_with fail
  refine (cloneX_en (XK X g) W3 hXK3 (.slice Ae0 k.ents.length cE0) k.ents hl he1).mono ?_
  rintro e W4 ⟨AE, cE, rfl, hown, hx4⟩
  clear b5
  replace hB := hB.ext hx4
  have f5 := hB.frozen 5
  have d5 := (hB.cell 5).trans rfl
  have hcg : Chg [g] W4 (W4.setCell ⟨g, 5, none⟩ (.slice AE k.ents.length cE)) := (Chg.refl _ _).set (by simp) _
  replace hB := hB.set_ 5 (.slice AE k.ents.length cE)
  change Blk _ g _ #[.int .u64 k.hard.term, .int .i64 k.hard.vote, .int .u64 k.snap.index, .int .u64 k.snap.term, .slice As k.snap.state.length cS, .slice AE k.ents.length cE] at hB
  replace hR_ := (hR_.ext hx4).chg hcg (by simp)
  replace hbs : Nw w1 _ (.slice As k.snap.state.length cS) k.snap.state := Nw.chg (own_ext hbs hx4) hcg (fun j hj hm => by have h1 := (hbs.lt j hj).1; have h2 := List.mem_singleton.1 hm; have h3 := hXK w1 (Ext.rfl' _) g (.inr ⟨by omega, by omega⟩); omega)
  replace hown := hown.chg hcg (fun j hj _ => .inr (by have := List.mem_singleton.1 hj; omega))
  have hown0 : Own 36 enE w _ (XK X g) (.slice AE k.ents.length cE) k.ents := hown.base hxw.size
  replace hxw := (hxw.trans' hx4).then_ hcg (by simp; omega)
  go_upto_region 3 with fail
  generalize W4.setCell ⟨g, 5, none⟩ (.slice AE k.ents.length cE) = W5 at *
  clear hcg f5 d5 hx4 he1 hown hXK3
  have b5 := (hB.cell 5).trans rfl
  go_wp2_with fail
  go_loopw [17] (fun i wr => ∃ ka : Nat, ka ≤ k.ents.length ∧ i = .int .i64 ka ∧ Blk wr g 33 #[.int .u64 k.hard.term, .int .i64 k.hard.vote, .int .u64 k.snap.index, .int .u64 k.snap.term, .slice As k.snap.state.length cS, .slice AE k.ents.length cE] ∧
      Blk wr (g + 1) 33 #[.int .u64 0, .int .i64 0, .int .u64 0, .int .u64 0, .slice none 0 0, .slice none 0 0] ∧ Nw w1 wr (.slice As k.snap.state.length cS) k.snap.state ∧ Own 36 enE w wr (XK X g) (.slice AE k.ents.length cE) k.ents ∧ Ext w wr) (fun i _ => (k.ents.length - intOf i).toNat)
  case atStart => exact ⟨0, by omega, rfl, hB, hR_, hbs, hown0, hxw⟩
  case round =>
    clear hB hR_ hbs hown0 hxw b5
    obtain ⟨ka, hka, rfl, hB, hR_, hbs, hown, hxw⟩ := hrel
    by_cases hlt : ka < k.ents.length
    · obtain ⟨gs, cap2, cur, css, hv, hbk, hgs, -, -, -, -, -, hXg⟩ := hown.openG (by omega)
      simp only [Value.slice.injEq, true_and] at hv
      obtain ⟨rfl, rfl⟩ := hv
      obtain ⟨d, ds, hds, hgl, hrep, hcell⟩ := own_cellsG hown hlt
      obtain ⟨vd, rfl, hdt, hdb⟩ := en_rep.1 hrep
      have hdm := hdl d (List.mem_of_getElem? hds.out)
      obtain ⟨Ad, cd, rfl, -, -, -⟩ := id hdb.1
      have p1 : wr.cell? ⟨gs, ka * 2 + 1, none⟩ = some (.slice Ad d.data.length cd) := hcell 1 _ rfl
      have hXs : ∀ j, (XK X g j ∨ j = gs) → j < wr.heap.size := fun j hj => by
        have h1 := hR_.lt
        rcases hj with (h | h) | h
        · have := hXl j h; omega
        · omega
        · rw [h]; exact hgl
      have hb1 : (0 : Int) ≤ ka := by omega
      have hb2 : (ka : Int) < k.ents.length := by omega
      have HLT := hide hlt
      clear hlt hcell hrep
      go_wp2
      refine Rg.regionT Try.checked.mixed 34 12 (by kernel_rfl) [
        (fun x_ _ => x_ = .pointer (some ⟨g, 5, none⟩)),
        (fun x_ _ => x_ = .slice (some ⟨gs, 0, none⟩) k.ents.length cE),
        (fun x_ _ => x_ = .int .i64 ka),
        (fun x_ _ => x_ = .pointer (some ⟨g, 5, none⟩)),
        (fun x_ _ => x_ = .slice (some ⟨gs, 0, none⟩) k.ents.length cE),
        (fun x_ _ => x_ = .int .i64 ka),
        (fun x_ _ => x_ = .pointer (some ⟨gs, ka * 2, none⟩)),
        (fun x_ _ => x_ = .pointer (some ⟨gs, ka * 2 + 1, none⟩)),
        (fun x_ _ => x_ = .slice Ad d.data.length cd),
        (fun v W => Enc.BsX W (fun j => XK X g j ∨ j = gs) v d.data),
        (fun x_ _ => x_ = .pointer (some ⟨gs, ka * 2, none⟩)),
        (fun x_ _ => x_ = .pointer (some ⟨gs, ka * 2 + 1, none⟩))] (fun W => Ext wr W) Ext rfl rfl rfl
        ?st ((Ext.rfl' wr).drew') ?ob ?en
      case st => exact ⟨fun _ _ _ h _ => h, fun _ _ _ h _ => h, fun _ _ _ h _ => h, fun _ _ _ h _ => h, fun _ _ _ h _ => h, fun _ _ _ h _ => h, fun _ _ _ h _ => h, fun _ _ _ h _ => h, fun _ _ _ h _ => h, fun _ _ _ h hx => h.ext hx, fun _ _ _ h _ => h, fun _ _ _ h _ => h, trivial⟩
      case ob =>
        refine ⟨Rg.at_run [1] rfl ?_, ?_⟩
        · intro ρ W hR ⟨q1, _⟩
          replace q1 : ρ 1 = .pointer (some ⟨g, 0, none⟩) := q1
          refine ⟨rfl, ?_⟩
          exact Rg.run_ok (v := .pointer (some ⟨g, 5, none⟩)) (by simp [execOp, Rg.ev, go_sem, q1]) ⟨rfl, hR, Ext.rfl' _⟩
        refine ⟨Rg.at_run [20] rfl ?_, ?_⟩
        · intro ρ W hR ⟨q20, _⟩
          replace q20 : ρ 20 = .pointer (some ⟨g, 5, none⟩) := q20
          refine ⟨rfl, ?_⟩
          have c5_ : W.cell? ⟨g, 5, none⟩ = some (.slice (some ⟨gs, 0, none⟩) k.ents.length cE) := ((hB.ext hR).cell 5).trans rfl
          exact Rg.run_ok (v := .slice (some ⟨gs, 0, none⟩) k.ents.length cE) (by simp [execOp, Rg.ev, go_sem, q20, c5_]) ⟨rfl, hR, Ext.rfl' _⟩
        refine ⟨Rg.at_run [3] rfl ?_, ?_⟩
        · intro ρ W hR ⟨q3, _⟩
          replace q3 : ρ 3 = .int .i64 ka := q3
          refine ⟨rfl, ?_⟩
          exact Rg.run_ok (v := .int .i64 ka) (by simp [execOp, Rg.ev, go_sem, q3]) ⟨rfl, hR, Ext.rfl' _⟩
        refine ⟨Rg.at_run [1] rfl ?_, ?_⟩
        · intro ρ W hR ⟨q1, _⟩
          replace q1 : ρ 1 = .pointer (some ⟨g, 0, none⟩) := q1
          refine ⟨rfl, ?_⟩
          exact Rg.run_ok (v := .pointer (some ⟨g, 5, none⟩)) (by simp [execOp, Rg.ev, go_sem, q1]) ⟨rfl, hR, Ext.rfl' _⟩
        refine ⟨Rg.at_run [23] rfl ?_, ?_⟩
        · intro ρ W hR ⟨q23, _⟩
          replace q23 : ρ 23 = .pointer (some ⟨g, 5, none⟩) := q23
          refine ⟨rfl, ?_⟩
          have c5_ : W.cell? ⟨g, 5, none⟩ = some (.slice (some ⟨gs, 0, none⟩) k.ents.length cE) := ((hB.ext hR).cell 5).trans rfl
          exact Rg.run_ok (v := .slice (some ⟨gs, 0, none⟩) k.ents.length cE) (by simp [execOp, Rg.ev, go_sem, q23, c5_]) ⟨rfl, hR, Ext.rfl' _⟩
        refine ⟨Rg.at_run [3] rfl ?_, ?_⟩
        · intro ρ W hR ⟨q3, _⟩
          replace q3 : ρ 3 = .int .i64 ka := q3
          refine ⟨rfl, ?_⟩
          exact Rg.run_ok (v := .int .i64 ka) (by simp [execOp, Rg.ev, go_sem, q3]) ⟨rfl, hR, Ext.rfl' _⟩
        refine ⟨Rg.at_run [24, 25] rfl ?_, ?_⟩
        · intro ρ W hR ⟨q24, q25, _⟩
          replace q24 : ρ 24 = .slice (some ⟨gs, 0, none⟩) k.ents.length cE := q24
          replace q25 : ρ 25 = .int .i64 ka := q25
          refine ⟨rfl, ?_⟩
          exact Rg.run_ok (v := .pointer (some ⟨gs, ka * 2, none⟩)) (by simp [execOp, Rg.ev, go_sem, q24, q25, hb1, hb2]) ⟨rfl, hR, Ext.rfl' _⟩
        refine ⟨Rg.at_run [26] rfl ?_, ?_⟩
        · intro ρ W hR ⟨q26, _⟩
          replace q26 : ρ 26 = .pointer (some ⟨gs, ka * 2, none⟩) := q26
          refine ⟨rfl, ?_⟩
          exact Rg.run_ok (v := .pointer (some ⟨gs, ka * 2 + 1, none⟩)) (by simp [execOp, Rg.ev, go_sem, q26]) ⟨rfl, hR, Ext.rfl' _⟩
        refine ⟨Rg.at_run [27] rfl ?_, ?_⟩
        · intro ρ W hR ⟨q27, _⟩
          replace q27 : ρ 27 = .pointer (some ⟨gs, ka * 2 + 1, none⟩) := q27
          refine ⟨rfl, ?_⟩
          have c_ : W.cell? ⟨gs, ka * 2 + 1, none⟩ = some (.slice Ad d.data.length cd) := by rw [hR.cell hgl]; exact p1
          exact Rg.run_ok (v := .slice Ad d.data.length cd) (by simp [execOp, Rg.ev, go_sem, q27, c_]) ⟨rfl, hR, Ext.rfl' _⟩
        refine ⟨Rg.at_run [28] rfl ?_, ?_⟩
        · intro ρ W hR ⟨q28, _⟩
          replace q28 : ρ 28 = .slice Ad d.data.length cd := q28
          refine ⟨rfl, ?_⟩
          refine Rg.enter_fn (args := #[.slice Ad d.data.length cd]) rfl (by simp only [List.map_toArray, List.map_cons, List.map_nil, Rg.ev, q28]) (by kernel_rfl) ?_
          refine (clone_b (.slice Ad d.data.length cd) d.data W (by omega) (hdb.1.ext hR)).mono ?_
          rintro e_ W2 ⟨m_, A5, c5, hm5, rfl, hz5, hx5⟩
          obtain rfl : m_ = d.data := hm5.out
          exact ⟨_, rfl, Enc.BsX.nw hz5 (fun j hj => Nat.lt_of_lt_of_le (hXs j hj) hR.size), hR.trans' hx5, hx5⟩
        refine ⟨Rg.at_run [21, 22] rfl ?_, ?_⟩
        · intro ρ W hR ⟨q21, q22, _⟩
          replace q21 : ρ 21 = .slice (some ⟨gs, 0, none⟩) k.ents.length cE := q21
          replace q22 : ρ 22 = .int .i64 ka := q22
          refine ⟨rfl, ?_⟩
          exact Rg.run_ok (v := .pointer (some ⟨gs, ka * 2, none⟩)) (by simp [execOp, Rg.ev, go_sem, q21, q22, hb1, hb2]) ⟨rfl, hR, Ext.rfl' _⟩
        refine ⟨Rg.at_run [30] rfl ?_, ?_⟩
        · intro ρ W hR ⟨q30, _⟩
          replace q30 : ρ 30 = .pointer (some ⟨gs, ka * 2, none⟩) := q30
          refine ⟨rfl, ?_⟩
          exact Rg.run_ok (v := .pointer (some ⟨gs, ka * 2 + 1, none⟩)) (by simp [execOp, Rg.ev, go_sem, q30]) ⟨rfl, hR, Ext.rfl' _⟩
        trivial
      case en =>
        intro tm W hR hsz hk
        rw [Rg.fin_eq (ds := [20, 21, 22, 23, 24, 25, 26, 27, 28, 29, 30, 31]) rfl rfl rfl hsz hk]
        have k20 : tm.getD 20 undef = .pointer (some ⟨g, 5, none⟩) := hk 20
        have k21 : tm.getD 21 undef = .slice (some ⟨gs, 0, none⟩) k.ents.length cE := hk 21
        have k22 : tm.getD 22 undef = .int .i64 ka := hk 22
        have k23 : tm.getD 23 undef = .pointer (some ⟨g, 5, none⟩) := hk 23
        have k24 : tm.getD 24 undef = .slice (some ⟨gs, 0, none⟩) k.ents.length cE := hk 24
        have k25 : tm.getD 25 undef = .int .i64 ka := hk 25
        have k26 : tm.getD 26 undef = .pointer (some ⟨gs, ka * 2, none⟩) := hk 26
        have k27 : tm.getD 27 undef = .pointer (some ⟨gs, ka * 2 + 1, none⟩) := hk 27
        have k28 : tm.getD 28 undef = .slice Ad d.data.length cd := hk 28
        have k29 : (fun v W => Enc.BsX W (fun j => XK X g j ∨ j = gs) v d.data) (tm.getD 29 undef) W := hk 29
        have k30 : tm.getD 30 undef = .pointer (some ⟨gs, ka * 2, none⟩) := hk 30
        have k31 : tm.getD 31 undef = .pointer (some ⟨gs, ka * 2 + 1, none⟩) := hk 31
        clear hk hsz
        simp only [Rg.putAll, List.setIfInBounds_toArray, List.set_cons_zero, List.set_cons_succ, k20, k21, k22, k23, k24, k25, k26, k27, k28, k30, k31]
        clear k20
        clear k21
        clear k22
        clear k23
        clear k24
        clear k25
        clear k26
        clear k27
        clear k28
        generalize tm.getD 29 undef = u29 at *
        clear k30
        clear k31
        have hgW := Nat.lt_of_lt_of_le hgl hR.size
        have f2 : W.frozen? ⟨gs, ka * 2 + 1, none⟩ = false := (hbk.ext hR).frozen _
        have p2W : W.cell? ⟨gs, ka * 2 + 1, none⟩ = some (.slice Ad d.data.length cd) := by rw [hR.cell hgl]; exact p1
        obtain ⟨A9, c9, rfl, -, -, -⟩ := id k29.1
        have hcg9 : Chg [gs] W (W.setCell ⟨gs, ka * 2 + 1, none⟩ (.slice A9 d.data.length c9)) := (Chg.refl _ _).set (by simp) _
        have hne : g ≠ gs := fun h => hXg (.inr ⟨by omega, by omega⟩)
        have hne1 : g + 1 ≠ gs := fun h => hXg (.inr ⟨by omega, by omega⟩)
        have hS9 : Own 36 enE w (W.setCell ⟨gs, ka * 2 + 1, none⟩ (.slice A9 d.data.length c9)) (XK X g) (.slice (some ⟨gs, 0, none⟩) k.ents.length cE) k.ents := by
          have h := Own.cellG (hown.ext hR) (i := ka) (j := 1) HLT.out (by decide) (a := d) (u := .slice A9 d.data.length c9) (fun cs hc => by
            rw [show k.ents[ka] = d from Option.some.inj ((List.getElem?_eq_getElem HLT.out).symm.trans hds.out)] at hc
            obtain ⟨v', rfl, -, -⟩ := en_rep.1 hc
            exact en_rep.2 ⟨_, rfl, hdt, k29⟩)
          rw [set_sameG k.ents ka d hds.out] at h
          exact h
        go_wp2
        go_roundw
        case rel => exact ⟨ka + 1, by have := HLT.out; omega, by go_num, (hB.ext hR).chg hcg9 (by simpa using hne), (hR_.ext hR).chg hcg9 (by simpa using hne1), Nw.chg (own_ext hbs hR) hcg9 (fun j hj hm => by have h2 := List.mem_singleton.1 hm; subst h2; exact own_blk_ne (own_ext hbs hR) (hbk.ext hR) (by decide) hj), hS9, (hxw.trans' hR).then_ hcg9 (by simpa using hgs)⟩
        case measure => have := HLT.out; simp [intOf]; omega
    · obtain rfl : ka = k.ents.length := by omega
      have b0 := (hB.cell 0).trans rfl
      have b1 := (hB.cell 1).trans rfl
      have b2 := (hB.cell 2).trans rfl
      have b3 := (hB.cell 3).trans rfl
      have b4 := (hB.cell 4).trans rfl
      have b5 := (hB.cell 5).trans rfl
      have r0 := (hR_.cell 0).trans rfl
      have r1 := (hR_.cell 1).trans rfl
      have r2 := (hR_.cell 2).trans rfl
      have r3 := (hR_.cell 3).trans rfl
      have r4 := (hR_.cell 4).trans rfl
      have r5 := (hR_.cell 5).trans rfl
      have f0 := hR_.frozen 0
      have f1 := hR_.frozen 1
      have f2 := hR_.frozen 2
      have f3 := hR_.frozen 3
      have f4 := hR_.frozen 4
      have f5 := hR_.frozen 5
      go_wp2
      try simp only [Exit.inBlock, Exit.then]
      have hcf : Chg [g + 1] wr _ := (Chg.refl [g + 1] wr).sixK (g := g + 1) (by simp) (.int .u64 k.hard.term) (.int .i64 k.hard.vote) (.int .u64 k.snap.index) (.int .u64 k.snap.term) (.slice As k.snap.state.length cS) (.slice AE k.ents.length cE)
      refine bodyPost_ret (results_cell_row rfl _ _ (g + 1) 33 #[.int .u64 k.hard.term, .int .i64 k.hard.vote, .int .u64 k.snap.index, .int .u64 k.snap.term, .slice As k.snap.state.length cS, .slice AE k.ents.length cE] (0, 0) _ rfl (Blk.sixK hR_ _ _ _ _ _ _) Try.underlying33 rfl (by kernel_rfl)) rfl ?_
      exact ⟨As, cS, AE, cE, rfl, (kp_apart (Nw.chg hbs hcf (fun j hj hm => by have h1 := (hbs.lt j hj).1; have h2 := List.mem_singleton.1 hm; have h3 := hXK w1 (Ext.rfl' _) (g + 1) (.inr ⟨by omega, by omega⟩); omega)) (hown.chg hcf (fun j hj _ => .inr (by have := List.mem_singleton.1 hj; omega))) (fun j hj => hXK w1 (Ext.rfl' _) j (.inl hj))), (hown.chg hcf (fun j hj _ => .inr (by have := List.mem_singleton.1 hj; omega))).mono fun j _ h => .inl h, hxw.then_ hcf (by simp; omega)⟩
end Go.Proofs.Ytboncnlcomeahaa

