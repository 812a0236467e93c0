import Derived.Test.YtggfemdgccgbpaaPk21
import Derived.Test.YtggfemdgccgbpaaPk22
import Derived.Test.YtggfemdgccgbpaaPk23
import Derived.Test.YtggfemdgccgbpaaPk11
import Derived.RegionTactic
import Derived.Deep.DeepCutAuto
import Derived.Test.YtggfemdgccgbpaaPk3
import Derived.Laws.Rows
import Derived.Laws.Tables
import Derived.Tactics2
import Derived.Test.YtggfemdgccgbpaaPk13
/- Links: small functions of the maker. -/
namespace Go.Proofs.Ytggfemdgccgbpaa
set_option linter.unusedVariables false
set_option linter.unusedSimpArgs false
set_option linter.unnecessarySimpa false
set_option maxRecDepth 100000
open Go.RowKit
theorem bool_or {b : Bool} : b = false ∨ b = true := by cases b <;> simp
set_option maxHeartbeats 800000 in
theorem lklive_b (x : Ln) (now : Int) (w : World) : Calls Try.prog 20 #[.agg (lcells x).toArray, .int .u64 now] w fun e w' => e = .returned (.bool (live now x)) ∧ Ext w w' := by
  have hx : Ext w (w.alloc (.cells (lcells x).toArray 48)) := (Ext.rfl' w).alloc' _
  rcases Bool.eq_false_or_eq_true (x.till == 0) with h0 | h0
  · have HL : Hid (live now x = true) := by
      have := beq_iff_eq.1 h0
      unfold Hid live; simp [this]
    rw [HL.out]
    go_enter Try.func20, Try.ntmps20
    go_wp2
    go_ret
    exact ⟨rfl, hx⟩
  · have h0' : ¬ x.till = 0 := by simpa using h0
    rcases Bool.eq_false_or_eq_true (decide (now < x.till)) with h1 | h1
    · have HL : Hid (live now x = true) := by unfold Hid live; simp [of_decide_eq_true h1]
      rw [HL.out]
      go_enter Try.func20, Try.ntmps20
      go_wp2
      go_ret
      exact ⟨rfl, hx⟩
    · have HL : Hid (live now x = false) := by unfold Hid live; simp [h0', of_decide_eq_false h1]
      rw [HL.out]
      go_enter Try.func20, Try.ntmps20
      go_wp2
      go_ret
      exact ⟨rfl, hx⟩
set_option maxHeartbeats 800000 in
theorem lkans_b (k : Int) (t : Bytes) (w : World) : Calls Try.prog 40 #[.int .i64 k, str t] w fun e w' => e = .returned (.agg (acells (if k = 0 then ⟨0, t⟩ else ⟨k, []⟩)).toArray) ∧ Ext w w' := by
  have hx : ∀ cs, Ext w (w.alloc (.cells cs 33)) := fun cs => (Ext.rfl' w).alloc' _
  rcases Bool.eq_false_or_eq_true (k == 0) with h0 | h0
  · obtain rfl := beq_iff_eq.1 h0
    rw [if_pos rfl]
    go_enter Try.func40, Try.ntmps40
    go_wp2
    try simp only [Exit.inBlock, Exit.then]
    refine bodyPost_ret (results_cell_row rfl _ _ w.heap.size 33 (acells ⟨0, t⟩).toArray (0, 0) _ rfl (Blk.new w _ _) Try.underlying33 rfl (by kernel_rfl)) rfl ?_
    exact ⟨rfl, hx _⟩
  · have h0' : ¬ k = 0 := by simpa using h0
    have h1 : (k != 0) = true := by simpa using h0'
    rw [if_neg h0']
    go_enter Try.func40, Try.ntmps40
    go_wp2
    try simp only [Exit.inBlock, Exit.then]
    refine bodyPost_ret (results_cell_row rfl _ _ w.heap.size 33 (acells ⟨k, []⟩).toArray (0, 0) _ rfl (Blk.new w _ _) Try.underlying33 rfl (by kernel_rfl)) rfl ?_
    exact ⟨rfl, hx _⟩
/-- what the maker's variable holds -/
abbrev mkcells (s : St) (c : Cm) (vt vl vs : Value) : List Value := [vt, .int .u64 s.now, .int .u64 s.count, vl, vs, .int .i64 c.kind, .int .i64 c.client, .int .u64 c.seq, str c.name, str c.url, .int .u64 c.till]
set_option maxHeartbeats 1600000 in
theorem lkmay_b (g : Nat) (s : St) (c : Cm) (vt vl vs : Value) (w : World) (h : Blk w g 71 (mkcells s c vt vl vs).toArray) :
    Calls Try.prog 48 #[.pointer (some ⟨g, 0, none⟩)] w fun e w' => e = .returned (.int .i64 (lmay c s.now)) ∧ Ext w w' := by
  have hx : Ext w (w.alloc (.cells (ccells c) 37)) := (Ext.rfl' w).alloc' _
  have a1 : (w.alloc (.cells (ccells c) 37)).cell? ⟨g, 1, none⟩ = some (.int .u64 s.now) := ((h.ext hx).cell 1).trans rfl
  have a5 : w.cell? ⟨g, 5, none⟩ = some (.int .i64 c.kind) := (h.cell 5).trans rfl
  have a6 : w.cell? ⟨g, 6, none⟩ = some (.int .i64 c.client) := (h.cell 6).trans rfl
  have a7 : w.cell? ⟨g, 7, none⟩ = some (.int .u64 c.seq) := (h.cell 7).trans rfl
  have a8 : w.cell? ⟨g, 8, none⟩ = some (str c.name) := (h.cell 8).trans rfl
  have a9 : w.cell? ⟨g, 9, none⟩ = some (str c.url) := (h.cell 9).trans rfl
  have a10 : w.cell? ⟨g, 10, none⟩ = some (.int .u64 c.till) := (h.cell 10).trans rfl
  by_cases hu : c.url = []
  · have HL : Hid (lmay c s.now = 1) := if_pos (.inl hu)
    rw [HL.out]
    clear HL
    obtain ⟨kind, client, seq, name, url, till⟩ := c
    simp only at hu a5 a6 a7 a8 a9 a10
    subst hu
    go_enter Try.func48, Try.ntmps48
    go_wp2
    go_ret
    exact ⟨rfl, hx⟩
  have hu' : c.url.isEmpty = false := by simpa using hu
  by_cases hl : (400 : Int) < c.url.length
  · have HL : Hid (lmay c s.now = 1) := if_pos (.inr (.inl (by omega)))
    rw [HL.out]
    clear hu
    go_enter Try.func48, Try.ntmps48
    go_wp2
    go_ret
    exact ⟨rfl, hx⟩
  by_cases ht : 1099511627776 < c.till
  · have HL : Hid (lmay c s.now = 1) := if_pos (.inr (.inr ht))
    rw [HL.out]
    clear hu
    go_enter Try.func48, Try.ntmps48
    go_wp2
    go_ret
    exact ⟨rfl, hx⟩
  have hn : ¬ (c.url = [] ∨ 400 < c.url.length ∨ 1099511627776 < c.till) := by
    rintro (h | h | h)
    · exact hu h
    · omega
    · omega
  have HN := hide hn
  clear hn hu
  by_cases h0 : c.till = 0
  · have HL : Hid (lmay c s.now = 0) := by unfold Hid lmay; rw [if_neg HN.out, if_neg (by simp [h0])]
    rw [HL.out]
    clear HL HN
    obtain ⟨kind, client, seq, name, url, till⟩ := c
    simp only at h0 a5 a6 a7 a8 a9 a10
    subst h0
    go_enter Try.func48, Try.ntmps48
    go_wp2
    go_region
    go_wp2
    go_ret
    exact ⟨rfl, hx.drew'⟩
  have h0' : (c.till != 0) = true := by simpa using h0
  by_cases hp : c.till ≤ s.now
  · have HL : Hid (lmay c s.now = 13) := by unfold Hid lmay; rw [if_neg HN.out, if_pos ⟨h0, hp⟩]
    rw [HL.out]
    go_enter Try.func48, Try.ntmps48
    go_wp2
    go_region
    go_wp2
    go_ret
    exact ⟨rfl, hx.drew'⟩
  · have HL : Hid (lmay c s.now = 0) := by unfold Hid lmay; rw [if_neg HN.out, if_neg (fun h => hp h.2)]
    rw [HL.out]
    go_enter Try.func48, Try.ntmps48
    go_wp2
    go_region
    go_wp2
    go_ret
    exact ⟨rfl, hx.drew'⟩
set_option maxHeartbeats 1600000 in
theorem lkown_b (g : Nat) (s : St) (c : Cm) (vt vl vs : Value) (x : Ln) (w : World) (h : Blk w g 71 (mkcells s c vt vl vs).toArray) :
    Calls Try.prog 51 #[.pointer (some ⟨g, 0, none⟩), .agg (lcells x).toArray] w fun e w' => e = .returned (.bool (lown c x)) ∧ Ext w w' := by
  have hx : Ext w (w.alloc (.cells (lcells x).toArray 48)) := (Ext.rfl' w).alloc' _
  have a9 : (w.alloc (.cells (lcells x).toArray 48)).cell? ⟨g, 9, none⟩ = some (str c.url) := ((h.ext hx).cell 9).trans rfl
  have a10 : (w.alloc (.cells (lcells x).toArray 48)).cell? ⟨g, 10, none⟩ = some (.int .u64 c.till) := ((h.ext hx).cell 10).trans rfl
  have b1 := ((Blk.new w 48 (lcells x).toArray).cell 1).trans rfl
  have b2 := ((Blk.new w 48 (lcells x).toArray).cell 2).trans rfl
  obtain ⟨xn, xu, xt, xm⟩ := x
  obtain ⟨kind, client, seq, name, url, till⟩ := c
  simp only at a9 a10 b1 b2
  by_cases hu : xu = url
  · subst hu
    by_cases ht : xt = till
    · subst ht
      have HL : Hid (lown ⟨kind, client, seq, name, xu, xt⟩ ⟨xn, xu, xt, xm⟩ = true) := by unfold Hid lown; simp
      rw [HL.out]
      go_enter Try.func51, Try.ntmps51
      go_wp2
      go_region
      go_wp2
      go_ret
      exact ⟨rfl, hx.drew'⟩
    · have HL : Hid (lown ⟨kind, client, seq, name, xu, till⟩ ⟨xn, xu, xt, xm⟩ = false) := by unfold Hid lown; simp [ht]
      have ht' : (xt == till) = false := by simpa using ht
      rw [HL.out]
      go_enter Try.func51, Try.ntmps51
      go_wp2
      go_region
      go_wp2
      go_ret
      exact ⟨rfl, hx.drew'⟩
  · have HL : Hid (lown ⟨kind, client, seq, name, url, till⟩ ⟨xn, xu, xt, xm⟩ = false) := by unfold Hid lown; simp [hu]
    have hu' : (xu == url) = false := by simpa using hu
    rw [HL.out]
    go_enter Try.func51, Try.ntmps51
    go_wp2
    go_region
    go_wp2
    go_ret
    exact ⟨rfl, hx.drew'⟩
end Go.Proofs.Ytggfemdgccgbpaa

/- The walk is stopped where two values have been boxed: the world behind it is any world that has them. -/
namespace Go.Proofs.Ytggfemdgccgbpaa
set_option linter.unusedVariables false
set_option linter.unusedSimpArgs false
set_option linter.unnecessarySimpa false
set_option maxRecDepth 100000
open Go.RowKit
/-- p, where no walk goes on -/
def Stop (p : Prop) : Prop := p
theorem two_stop {P : Program} {ops : Array Oper} {Q : Exit → Act → World → Prop} {l : List Oper} {a : Act} {w : World} {c1 c2 : Array Value} {T1 T2 : TypeId}
    (h : Stop (∀ (W : World) (g : Nat), w.heap.size = g → Blk W g T1 c1 → Blk W (g + 1) T2 c2 → Ext w W → wpList P ops Q l a W)) :
    wpList P ops Q l a ((w.alloc (.cells c1 T1)).alloc (.cells c2 T2)) :=
  h _ _ rfl ((Blk.new w T1 c1).alloc _) (by have := Blk.new (w.alloc (.cells c1 T1)) T2 c2; simpa using this) (((Ext.rfl' w).alloc' _).alloc' _)
theorem one_stop {P : Program} {ops : Array Oper} {Q : Exit → Act → World → Prop} {l : List Oper} {a : Act} {w : World} {c1 : Array Value} {T1 : TypeId}
    (h : Stop (∀ (W : World) (g : Nat), w.heap.size = g → Blk W g T1 c1 → Ext w W → wpList P ops Q l a W)) :
    wpList P ops Q l a (w.alloc (.cells c1 T1)) :=
  h _ _ rfl (Blk.new w T1 c1) ((Ext.rfl' w).alloc' _)
end Go.Proofs.Ytggfemdgccgbpaa

/- A whole row of cells written at once. -/
namespace Go.Proofs.Ytggfemdgccgbpaa
set_option linter.unusedVariables false
set_option linter.unusedSimpArgs false
set_option linter.unnecessarySimpa false
set_option maxRecDepth 100000
open Go.RowKit
theorem Blk.row {W : World} {g : Nat} {T : TypeId} {old : Array Value} (h : Blk W g T old) (cs : Array Value) : Blk (W.setRow g cs) g T cs := setRow_heap W g old cs T (0, 0) h
theorem Chg.row {S : List Nat} {W0 W : World} {g : Nat} (h : Chg S W0 W) (hg : g ∈ S) (cs : Array Value) : Chg S W0 (W.setRow g cs) :=
  h.trans ⟨rfl, rfl, rfl, by simp, fun k _ hn => setRow_other W g k cs fun e => hn (e ▸ hg)⟩
section
variable {P : Program} {ops : Array Oper} {rest : List Oper} {o : Oper} {a : Act} {w : World} {Q : Exit → Act → World → Prop}
/-- a whole variable is read: no cell by itself -/
theorem ld_row (hw : Region.wanted o (yielded ops a.tmps) = true) (ty : TypeId) (x : Operand) (ho : o.op = .load ty x) (g : Nat) (hx : a.eval x = .pointer (some ⟨g, 0, none⟩)) (t : TypeId) (cs : Array Value) (d : TypeDesc) (hg : Blk w g t cs)
    (hu : P.underlying ty = some d) (hd : (match d with | .struct _ | .array _ _ => true | _ => false) = true) (hi : (P.info? ty).map (·.size) = some cs.size) (h : wpList P ops Q rest (a.put o.dst (.agg cs)) w) : wpList P ops Q (o :: rest) a w :=
  wpList_step fun K hK => by rw [if_pos hw]; exact wp_load_row ty x ho g hx t cs (0, 0) d hg hu hd hi (hK _ _ h)
/-- a whole variable is written -/
theorem st_row (hw : Region.wanted o (yielded ops a.tmps) = true) (ty : TypeId) (x y : Operand) (ho : o.op = .store ty x y) (g : Nat) (cells : Array Value) (hx : a.eval x = .pointer (some ⟨g, 0, none⟩)) (hy : a.eval y = .agg cells)
    (t : TypeId) (old : Array Value) (hg : Blk w g t old) (hi : (P.info? ty).map (·.size) = some cells.size) (hold : old.size = cells.size) (h1 : cells.all (·.oneCell') = true)
    (h : wpList P ops Q rest (a.put o.dst undef) (w.setRow g cells)) : wpList P ops Q (o :: rest) a w :=
  wpList_step fun K hK => by rw [if_pos hw]; exact wp_store_row ty x y ho g cells hx hy t old hg hi hold h1 (hK _ _ h)
/-- a whole variable is written, and the walk is stopped: the world behind it is any world that has it -/
theorem st_stop (hw : Region.wanted o (yielded ops a.tmps) = true) (ty : TypeId) (x y : Operand) (ho : o.op = .store ty x y) (g : Nat) (cells : Array Value) (hx : a.eval x = .pointer (some ⟨g, 0, none⟩)) (hy : a.eval y = .agg cells)
    (t : TypeId) (old : Array Value) (hg : Blk w g t old) (hi : (P.info? ty).map (·.size) = some cells.size) (hold : old.size = cells.size) (h1 : cells.all (·.oneCell') = true)
    (h : Stop (∀ W : World, Blk W g t cells → Chg [g] w W → wpList P ops Q rest (a.put o.dst undef) W)) : wpList P ops Q (o :: rest) a w :=
  st_row hw ty x y ho g cells hx hy t old hg hi hold h1 (h _ (hg.row cells) ((Chg.refl [g] w).row (by simp) cells))
end
end Go.Proofs.Ytggfemdgccgbpaa

/- A whole variable is read in a drawn region. -/
namespace Go.Proofs.Ytggfemdgccgbpaa.Rg
set_option linter.unusedVariables false
set_option linter.unusedSimpArgs false
set_option linter.unnecessarySimpa false
set_option maxRecDepth 100000
open Go.RowKit
theorem load_row {P : Program} {ρ : Tmp → Value} {W : World} {o : Oper} (ty : TypeId) (x : Operand) (ho : o.op = .load ty x) (g : Nat) (hx : ev ρ x = .pointer (some ⟨g, 0, none⟩)) (t : TypeId) (cs : Array Value) (d : TypeDesc) (hg : Blk W g t cs)
    (hu : P.underlying ty = some d) (hd : (match d with | .struct _ | .array _ _ => true | _ => false) = true) (hi : (P.info? ty).map (·.size) = some cs.size) :
    (execOp (ev ρ) o).run P W = .ok (.value (.agg cs)) W := by
  unfold execOp
  simp only [ho, hx, Instr.loadAt, Instr.sureAddr, Sem.run_bind, Sem.run_pure, Result.andThen_ok, run_loadVar_row W g t ty cs (0, 0) d hg hu hd hi]
/-- a function that is named is called in a drawn region -/
theorem enter_fn {P : Program} {ρ : Tmp → Value} {W : World} {o : Oper} {f : FuncId} {xs : Array Operand} {ts : Array TypeId} {args : Array Value} {K : Value → World → Prop} (ho : o.op = .call { callee := .value (.func f), args := xs, argTypes := ts })
    (ha : xs.map (ev ρ) = args) (hF : (callFunc f args).run P W = .ok (.enter f args) W) (hK : Calls P f args W fun e W'' => ∃ v, e = .returned v ∧ K v W'') : Run P o ρ W K :=
  run_enter (by subst ha; unfold execOp; simp [ho, go_sem, resolve, ev]; exact hF) hK
end Go.Proofs.Ytggfemdgccgbpaa.Rg

