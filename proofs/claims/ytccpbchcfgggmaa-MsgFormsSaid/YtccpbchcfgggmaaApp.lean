/- A slice of bytes that one may append to, be it a literal of none, nil, or new memory. -/
import Derived.Test.YtccpbchcfgggmaaStr
import Derived.Test.YtccpbchcfgggmaaRef1
import Derived.Test.YtccpbchcfgggmaaChg
namespace Go.Proofs.Ytccpbchcfgggmaa
set_option linter.unusedVariables false
set_option linter.unusedSimpArgs false
set_option linter.unnecessarySimpa false
set_option maxRecDepth 100000
open Go.RowKit
/-- none yet, and no room -/
def App0 (w0 W : World) (v : Value) : Prop := ∃ A, v = .slice A 0 0 ∧ ∀ a, A = some a → w0.heap.size ≤ a.block ∧ a.block < W.heap.size
theorem App0.size {w0 W W' : World} {v : Value} (h : App0 w0 W v) (hs : W.heap.size ≤ W'.heap.size) : App0 w0 W' v := by
  obtain ⟨A, rfl, h2⟩ := h
  exact ⟨A, rfl, fun a ha => ⟨(h2 a ha).1, Nat.lt_of_lt_of_le (h2 a ha).2 hs⟩⟩
theorem App0.ext {w0 W W' : World} {v : Value} (h : App0 w0 W v) (hx : Ext W W') : App0 w0 W' v := h.size hx.size
theorem App0.lit {w0 w : World} (hx : Ext w0 w) (g : Nat) (hg : w.heap.size = g) (o : Obj) : App0 w0 (w.alloc o) (.slice (some ⟨g, 0, none⟩) 0 0) := by
  subst hg
  refine ⟨_, rfl, fun a ha => ?_⟩
  obtain rfl := Option.some.inj ha
  exact ⟨hx.size, by simp⟩
theorem App0.nil (w0 W : World) : App0 w0 W (.slice none 0 0) := ⟨none, rfl, fun a ha => by cases ha⟩
def App (w0 W : World) (v : Value) (l : Bytes) : Prop := (l = [] ∧ App0 w0 W v) ∨ Nw w0 W v l
theorem App.own_lt {w0 W : World} {v : Value} {l : Bytes} (h : App w0 W v l) : ∀ k, v.ownBlock = some k → w0.heap.size ≤ k ∧ k < W.heap.size := by
  rcases h with ⟨_, A, rfl, h⟩ | h
  · intro k hk
    cases A with
    | none => cases hk
    | some a => obtain rfl : a.block = k := Option.some.inj hk; exact h a rfl
  · exact h.lt
theorem App.bs {w0 W : World} {v : Value} {l : Bytes} (h : App w0 W v l) : Bs W v l := by
  rcases h with ⟨rfl, A, rfl, _⟩ | h
  · exact Bs.mk' rfl (Nat.le_refl _) (by simp [maxLen]) ⟨rfl, fun h => absurd h (by omega)⟩
  · exact h.bs
theorem App.ext {w0 W W' : World} {v : Value} {l : Bytes} (h : App w0 W v l) (hx : Ext W W') : App w0 W' v l := by
  rcases h with ⟨h, h2⟩ | h
  · exact .inl ⟨h, h2.ext hx⟩
  · exact .inr (own_ext h hx)
theorem App.trans {w0 w1 W : World} {v : Value} {l : Bytes} (h : App w1 W v l) (hx : Ext w0 w1) : App w0 W v l := by
  rcases h with ⟨h, A, h2, h3⟩ | h
  · exact .inl ⟨h, A, h2, fun a ha => ⟨Nat.le_trans hx.size (h3 a ha).1, (h3 a ha).2⟩⟩
  · exact .inr (h.trans hx)
theorem App0.app {w0 W : World} {v : Value} (h : App0 w0 W v) : App w0 W v [] := .inl ⟨rfl, h⟩
theorem App.form {w0 W : World} {v : Value} {l : Bytes} (h : App w0 W v l) : ∃ A c, v = .slice A l.length c := by
  obtain ⟨A, c, rfl, _⟩ := h.bs
  exact ⟨A, c, rfl⟩
theorem App.off {w0 W : World} {v : Value} {l : Bytes} (h : App w0 W v l) {S : List Nat} (hs : ∀ k, k ∈ S → k < w0.heap.size) : Off v S := by
  rcases h with ⟨rfl, A, rfl, _⟩ | h
  · rintro ad n c he h0
    simp only [Value.slice.injEq] at he
    omega
  · exact h.off hs
theorem run_app_same {W : World} (A : Option Addr) (ty : TypeId) {B : Option Addr} {c : Nat} : (Builtin.append_ #[25, 25] ty #[.slice A 0 0, .slice B 0 c]).run Try.prog W = .ok (.slice A 0 0) W := by
  obtain ⟨i0, hi, hz0, hz1, hz2⟩ := info_parts ti5
  cases A <;> cases B <;> simp [Builtin.append_, run_underlying Try.underlying25, sizeOf, typeInfo, hi, hz1, Builtin.lenOf, Builtin.firstCells, storeCells, loadCells, loadCellsFrom]
/-- onto none without room: nothing old is written -/
theorem run_app0 (w0 W : World) (v : Value) (ty : TypeId) (h : App0 w0 W v) (hx0 : Ext w0 W) (y : Value) (m : Bytes) (hy : Bs W y m) (hlen : m.length ≤ 140737488355328) :
    ∃ v' W', (Builtin.append_ #[25, 25] ty #[v, y]).run Try.prog W = .ok v' W' ∧ App w0 W' v' m ∧ Ext W W' := by
  obtain ⟨i0, hi, hz0, hz1, hz2⟩ := info_parts ti5
  obtain ⟨B, c, rfl, h1, h2, h3⟩ := hy
  obtain ⟨A, rfl, hA⟩ := h
  rcases Nat.eq_zero_or_pos m.length with hm | hm
  · have hm0 := List.eq_nil_of_length_eq_zero hm
    subst hm0
    exact ⟨_, _, run_app_same A ty, .inl ⟨rfl, A, rfl, hA⟩, Ext.rfl' W⟩
  · obtain ⟨ad, rfl, hb, hcell⟩ := h3.2 hm
    have ho := run_append_own (P := Try.prog) W w0.heap.size 25 ty 5 i0 (.int .u8 0) 1 1 Try.underlying25 hi hz0 hz1 hz2 rfl (by decide) (.slice none 0 0) 0 [] (World.ownsRow_nil _ _ _ _) ad m.length c (bv m) h3.1 hcell (bv_one m) (by simp [maxLen]; omega) (by omega) hx0.size
    obtain ⟨v', w', hrun, hown, hg, _⟩ := ho
    have e1 := run_append_nil (P := Try.prog) W 25 ty 5 i0 (.int .u8 0) Try.underlying25 hi hz0 ad m.length c (bv m) (by rw [hz1]; exact h3.1) hcell hm (by omega) (by rw [hz2]; omega)
    rw [e1] at hrun
    have hrun' : (Builtin.append_ #[25, 25] ty #[.slice A 0 0, .slice (some ad) m.length c]).run Try.prog W = .ok v' w' := by
      rw [← hrun]
      cases A with
      | none => exact e1
      | some b =>
        have e2 := run_append_grow (P := Try.prog) W 25 ty 5 i0 (.int .u8 0) Try.underlying25 hi hz0 b 0 0 [] (by simp) (fun j u hu => by simp at hu) ad m.length c (bv m) (by rw [hz1]; exact h3.1) hcell (by omega) (by omega) (by rw [Nat.zero_add, nextslicecap_zero hm, hz2]; omega)
        rw [e2]
        simp
    refine ⟨v', w', hrun', .inr ?_, (Ext.rfl' W).grown' hg (fun k hk => by cases hk)⟩
    unfold Nw
    simpa using hown
theorem run_appA (w0 W : World) (v : Value) (l : Bytes) (ty : TypeId) (h : App w0 W v l) (hx0 : Ext w0 W) (y : Value) (m : Bytes) (hy : Bs W y m) (hlen : l.length + m.length ≤ 140737488355328) :
    ∃ v' W', (Builtin.append_ #[25, 25] ty #[v, y]).run Try.prog W = .ok v' W' ∧ App w0 W' v' (l ++ m) ∧ Ext w0 W' ∧ (∀ k, v.ownBlock ≠ some k → k < W.heap.size → W'.heap[k]? = W.heap[k]?) := by
  rcases h with ⟨rfl, h⟩ | h
  · obtain ⟨v', W', hrun, hv, hx⟩ := run_app0 w0 W v ty h hx0 y m hy (by simpa using hlen)
    exact ⟨v', W', hrun, hv, hx0.trans' hx, fun k _ hk => hx.block k hk⟩
  · obtain ⟨i0, hi, hz0, hz1, hz2⟩ := info_parts ti5
    obtain ⟨B, c, rfl, h1, h2, h3⟩ := hy
    obtain ⟨v', w', hrun, hown, hg, _⟩ := run_append_any (P := Try.prog) W w0.heap.size 25 ty 5 i0 (.int .u8 0) 1 1 Try.underlying25 hi hz0 hz1 hz2 rfl (by decide) v l.length (bv l) h W.heap.size B m.length c (bv m) h3 (bv_one m) (by simp [maxLen]; omega) (by omega) hx0.size
    refine ⟨v', w', hrun, .inr ?_, hx0.grown' hg (fun k hk => (h.lt k hk).1), fun k hk1 hk => hg.block k hk (fun e => hk1 e.symm)⟩
    unfold Nw
    rw [List.length_append, bv_append]
    exact hown
/-- append of bytes onto such -/
theorem wpList_appA {ops : Array Oper} {rest : List Oper} {o : Oper} {a : Act} {Q : Exit → Act → World → Prop} (w0 w : World) (hgd : o.guard = none) (s x : Operand)
    (ho : o.op = .call { callee := .builtin .append, args := #[s, x], argTypes := #[25, 25] }) (v : Value) (l : Bytes) (hs : a.eval s = v) (hown : App w0 w v l) (hx0 : Ext w0 w)
    (y : Value) (m : Bytes) (hx : a.eval x = y) (hr : Bs w y m) (hlen : l.length + m.length ≤ 140737488355328)
    (h : ∀ (k : Bytes) (A : Option Addr) (c : Nat) (w' : World), Hid (k = l ++ m) → App w0 w' (.slice A k.length c) k → Ext w0 w' → (∀ k, v.ownBlock ≠ some k → k < w.heap.size → w'.heap[k]? = w.heap[k]?) → wpList Try.prog ops Q rest (a.put o.dst (.slice A k.length c)) w') : wpList Try.prog ops Q (o :: rest) a w :=
  wpList_plain hgd fun _ hK => by
    obtain ⟨v', w', hrun, h2, h3, h4⟩ := run_appA w0 w v l o.type hown hx0 y m hr hlen
    obtain ⟨A, c, rfl⟩ := h2.form
    unfold Oper.wp execOp
    simp only [ho, resolve, invoke, builtin, Sem.run_bind, Sem.run_pure, Result.andThen_ok, List.map_toArray, List.map_cons, List.map_nil, hs, hx, hrun]
    exact hK _ _ (h (l ++ m) A c w' (hide rfl) h2 h3 h4)
end Go.Proofs.Ytccpbchcfgggmaa
