import Derived.Test.YtggfemdgccgbpaaPk11
import Derived.Laws.CopyRow
import Derived.Lib.AppendZerosOnto
import Derived.Lib.Overlaps
/- Rows of structs: copied, cleared, written in place. -/
namespace Go.Proofs.Ytggfemdgccgbpaa
set_option linter.unusedVariables false
set_option linter.unusedSimpArgs false
set_option linter.unnecessarySimpa false
set_option maxRecDepth 100000
open Go.RowKit
section
variable {P : Program} {w : World}
theorem run_copyK (dT sT ty elem : TypeId) (g o dLen dCap : Nat) (a : Addr) (sLen sCap k : Nat) (cur : Array Value) (t : TypeId) (cs : List Value)
    (hu : P.underlying dT = some (.slice elem)) (hs : (P.info? elem).map (·.size) = some k)
    (hg : w.heap[g]? = some (.cells cur t (0, 0))) (hn : cs.length = Nat.min sLen dLen * k)
    (hsrc : ∀ j v, cs[j]? = some v → w.cell? (a.add j) = some v) (hfit : o + cs.length ≤ cur.size) (h1 : ∀ v ∈ cs, v.oneCell' = true) :
    (Builtin.copy_ #[dT, sT] ty #[.slice (some ⟨g, o, none⟩) dLen dCap, .slice (some a) sLen sCap]).run P w =
      .ok (goInt (Nat.min sLen dLen)) (w.setRow g (cur.toList.take o ++ cs ++ cur.toList.drop (o + cs.length)).toArray) := by
  have hl := run_loadCells_list (P := P) w a cs hsrc
  have hst := run_storeCells_at P g o t cs 0 cur w hg (by simpa using hfit) h1
  cases hq : P.info? elem with
  | none => simp [hq] at hs
  | some i =>
    have hi : i.size = k := by simpa [hq] using hs
    simp [Builtin.copy_, run_underlying hu, Builtin.lenOf, Builtin.firstCells, sizeOf, typeInfo, hq, hi, ← hn, hl, hst]
theorem wpList_copy_run {ops : Array Oper} {rest : List Oper} {o : Oper} {a : Act} {Q : Exit → Act → World → Prop} (hgd : o.guard = none) (s x : Operand) (ts : Array TypeId)
    (ho : o.op = .call { callee := .builtin .copy, args := #[s, x], argTypes := ts }) (u y : Value) (hs : a.eval s = u) (hx : a.eval x = y) {v : Value} {w' : World}
    (hr : (Builtin.copy_ ts o.type #[u, y]).run P w = .ok v w') (h : wpList P ops Q rest (a.put o.dst v) w') : wpList P ops Q (o :: rest) a w :=
  wpList_plain hgd fun _ hK => by
    unfold Oper.wp execOp
    simp only [ho, resolve, invoke, builtin, Sem.run_bind, Sem.run_pure, Result.andThen_ok, List.map_toArray, List.map_cons, List.map_nil, hs, hx, hr]
    exact hK _ _ h
theorem run_clearK (t e ty : TypeId) (z : Value) (ht : P.underlying t = some (.slice e)) (hv : ∀ w, (zeroValue e).run P w = .ok z w) (g o n c : Nat) (cur : Array Value) (tt : TypeId) (hn : 0 < n)
    (hg : w.heap[g]? = some (.cells cur tt (0, 0))) (hfit : o + n * z.cells.size ≤ cur.size) (h1 : ∀ v ∈ (Builtin.zeroCells z.cells n).toList, v.oneCell' = true) :
    (Builtin.clear_ #[t] ty #[.slice (some ⟨g, o, none⟩) n c]).run P w = .ok (.tuple #[]) (w.setRow g (cur.toList.take o ++ (Builtin.zeroCells z.cells n).toList ++ cur.toList.drop (o + (Builtin.zeroCells z.cells n).toList.length)).toArray) := by
  have hl : (Builtin.zeroCells z.cells n).toList.length = n * z.cells.size := by simp [Builtin.zeroCells]
  have hst := run_storeCells_at P g o tt (Builtin.zeroCells z.cells n).toList 0 cur w hg (by rw [hl]; simpa using hfit) h1
  simp only [Nat.add_zero] at hst
  obtain ⟨m, rfl⟩ : ∃ m, n = m + 1 := ⟨n - 1, by omega⟩
  simp [Builtin.clear_, run_underlying ht, hv, hst]
end
theorem cutA_own {k g c lo : Nat} (h : lo < c) : cutA k (some ⟨g, 0, none⟩) c lo = some ⟨g, lo * k, none⟩ := by
  unfold cutA
  rw [if_neg (by omega), Option.map_some]
  unfold Addr.add
  split
  · rename_i h0; rw [h0]
  · simp
/-! plain lists -/
section
variable {α : Type}
/-- what a row holds whose elements from i on were moved up by one and one was laid between -/
theorem ins_flat (css : List (List α)) (k i : Nat) (cur ce : List α) (h : ∀ c ∈ css, c.length = k) (hc : ce.length = k) (hi : i ≤ css.length) (hl : (css.length + 1) * k ≤ cur.length) (ht : cur.take (i * k) = (css.take i).flatten) (cur1 : List α)
    (h1 : cur1 = cur.take ((i + 1) * k) ++ (css.drop i).flatten ++ cur.drop ((i + 1) * k + (css.drop i).flatten.length)) :
    cur1.length = cur.length ∧ (cur1.take (i * k) ++ ce ++ cur1.drop (i * k + ce.length)).take ((css.length + 1) * k) = (css.take i ++ ce :: css.drop i).flatten ∧ (cur1.take (i * k) ++ ce ++ cur1.drop (i * k + ce.length)).length = cur.length := by
  have hd := flat_len (css.drop i) k fun c hc => h c (List.mem_of_mem_drop hc)
  rw [List.length_drop] at hd
  have e0 : (i + 1) * k = i * k + k := Nat.succ_mul _ _
  have e1 : (css.length + 1) * k = css.length * k + k := Nat.succ_mul _ _
  have e2 : css.length * k = i * k + (css.length - i) * k := by rw [← Nat.add_mul]; congr 1; omega
  have l1 : cur1.length = cur.length := by
    rw [h1]; simp only [List.length_append, List.length_take, List.length_drop, hd]; omega
  have t1 : cur1.take (i * k) = (css.take i).flatten := by
    rw [h1, List.append_assoc, List.take_append_of_le_length (by rw [List.length_take]; omega), List.take_take, Nat.min_eq_left (by omega), ht]
  have d1 : cur1.drop (i * k + ce.length) = (css.drop i).flatten ++ cur.drop ((i + 1) * k + (css.drop i).flatten.length) := by
    rw [h1, List.append_assoc, List.drop_append_of_le_length (by rw [List.length_take, hc]; omega)]
    rw [hc, ← e0, List.drop_take, Nat.sub_self]
    simp
  refine ⟨l1, ?_, ?_⟩
  · rw [t1, d1, List.flatten_append, List.flatten_cons, ← List.append_assoc, List.append_assoc (css.take i).flatten]
    have hh : ((css.take i).flatten ++ (ce ++ (css.drop i).flatten)).length = (css.length + 1) * k := by
      rw [List.length_append, List.length_append, flat_len (css.take i) k fun c hc => h c (List.mem_of_mem_take hc), hd, hc, List.length_take, Nat.min_eq_left hi]; omega
    rw [← hh]
    exact List.take_left' rfl
  · simp only [List.length_append, List.length_take, List.length_drop, hc, l1]; omega
end
/-- a slice of new memory, by its block -/
theorem Own.mk {α : Type} {T : TypeId} {E : Enc α} {w0 w : World} {X : Avoid} {g cap : Nat} {l : List α} (cur : Array Value) (css : List (List Value)) (hg : w.heap[g]? = some (.cells cur T (0, 0))) (hb : w0.heap.size ≤ g) (hc : l.length ≤ cap) (hm : cap ≤ maxLen)
    (hs : cur.size = cap * E.size) (ht : cur.toList.take (l.length * E.size) = css.flatten) (he : Enc.Each E w (fun k => X k ∨ k = g) css l) (hX : ¬ X g) : Own T E w0 w X (.slice (some ⟨g, 0, none⟩) l.length cap) l :=
  ⟨css, ⟨he.len, .inr ⟨g, cap, cur, rfl, hb, hg, hc, hm, hs, ht⟩⟩, he.mono fun k _ hk => hk.elim .inl fun h => .inr (Option.some.inj h).symm, fun k hk => by obtain rfl := Option.some.inj hk; exact hX⟩
theorem Own.open_ {α : Type} {T : TypeId} {E : Enc α} {w0 w : World} {X : Avoid} {v : Value} {l : List α} (h : Own T E w0 w X v l) (hn : 0 < l.length) : ∃ g cap cur css, v = .slice (some ⟨g, 0, none⟩) l.length cap ∧ w.heap[g]? = some (.cells cur T (0, 0)) ∧ w0.heap.size ≤ g ∧ l.length ≤ cap ∧ cap ≤ maxLen ∧
    cur.size = cap * E.size ∧ cur.toList.take (l.length * E.size) = css.flatten ∧ Enc.Each E w (fun k => X k ∨ k = g) css l ∧ ¬ X g := by
  obtain ⟨css, ⟨_, h1⟩, h2, h3⟩ := h
  rcases h1 with ⟨_, h0⟩ | ⟨g, cap, cur, rfl, hb, hg, hc, hm, hs, ht⟩
  · omega
  · exact ⟨g, cap, cur, css, rfl, hg, hb, hc, hm, hs, ht, h2.mono fun k _ hk => hk.elim .inl fun h => .inr (by rw [h]; rfl), h3 g rfl⟩
theorem setRow_chg {w : World} {g : Nat} (cs : Array Value) : Chg [g] w (w.setRow g cs) :=
  ⟨rfl, rfl, rfl, by simp, fun k _ hn => setRow_other w g k cs (by simpa using hn)⟩
end Go.Proofs.Ytggfemdgccgbpaa

