/- A part of the proof of 'StoreAll'. -/
import Derived.Test.YtlblgopfdadalaaS5
import Derived.Test.YtlblgopfdadalaaS6
import Derived.ArgAppend
import Derived.Deep.RegionLaw
import Derived.Test.YtlblgopfdadalaaS1
import Derived.Test.YtlblgopfdadalaaS4
import Derived.Laws.ResultCell
namespace Go.Proofs.Ytlblgopfdadalaa
set_option linter.unusedVariables false
set_option linter.unusedSimpArgs false
set_option linter.unnecessarySimpa false
set_option maxRecDepth 100000
open Go.RowKit
/-- a slice of new memory, from off on in its block, that reads as l -/
def OwnO {α : Type} (T : TypeId) (E : Enc α) (w0 w : World) (X : Avoid) (v : Value) (l : List α) : Prop :=
  (∃ A, v = .slice A 0 0 ∧ l = [] ∧ ∀ a, A = some a → w0.heap.size ≤ a.block ∧ a.block < w.heap.size ∧ ¬ X a.block) ∨ ∃ (g off c : Nat) (cur : Array Value) (css : List (List Value)), v = .slice (some ⟨g, off, none⟩) l.length c ∧ w0.heap.size ≤ g ∧ Blk w g T cur ∧ l.length ≤ c ∧ c ≤ maxLen ∧ 0 < c ∧ off + c * E.size ≤ cur.size ∧
    (∀ j u, css.flatten[j]? = some u → cur[off + j]? = some u) ∧ Enc.Each E w (fun k => X k ∨ k = g) css l ∧ ¬ X g
section
variable {α : Type} {T : TypeId} {E : Enc α} {w0 w w' : World} {X Y : Avoid} {v : Value} {l m : List α}
theorem OwnO.form (h : OwnO T E w0 w X v l) : ∃ A c, v = .slice A l.length c ∧ l.length ≤ c ∧ c ≤ maxLen := by
  rcases h with ⟨A, rfl, rfl, hA⟩ | ⟨g, off, c, cur, css, rfl, h1, h2, h3, h4, -⟩
  · exact ⟨A, 0, rfl, Nat.le_refl _, by simp [maxLen]⟩
  · exact ⟨_, c, rfl, h3, h4⟩
theorem OwnO.sl (h : OwnO T E w0 w X v l) : Enc.Sl E w X v l := by
  rcases h with ⟨A, rfl, rfl, hA⟩ | ⟨g, off, c, cur, css, rfl, h1, h2, h3, h4, h0, h5, h6, h7, h8⟩
  · exact ⟨A, 0, [], rfl, Nat.le_refl _, by simp [maxLen], ⟨by simp, fun h => absurd h (by simp)⟩, fun _ _ h => absurd h (by simp), Enc.Each.nil E w X⟩
  · refine ⟨_, c, css, rfl, h3, h4, ⟨h7.len, fun _ => ⟨_, rfl, h2.lt, fun j u hu => ?_⟩⟩, fun ad he _ => ?_, h7.mono fun k _ hk => .inl hk⟩
    · have hadd : (⟨g, off, none⟩ : Addr).add j = ⟨g, off + j, none⟩ := by unfold Addr.add; split <;> simp_all
      rw [hadd, h2.cell]
      exact h6 j u hu
    · rw [← Option.some.inj he]
      exact h8
theorem OwnO.nil (T : TypeId) (E : Enc α) (w0 w : World) (X : Avoid) : OwnO T E w0 w X (.slice none 0 0) [] := .inl ⟨none, rfl, rfl, fun a h => by cases h⟩
theorem OwnO.own (h : OwnO T E w0 w X v l) : ∀ k, v.ownBlock = some k → w0.heap.size ≤ k ∧ k < w.heap.size ∧ ¬ X k := by
  rcases h with ⟨A, rfl, rfl, hA⟩ | ⟨g, off, c, cur, css, rfl, h1, h2, h3, h4, h0, h5, h6, h7, h8⟩
  · intro k hk
    cases A with
    | none => cases hk
    | some a => obtain rfl : a.block = k := Option.some.inj hk; exact hA a rfl
  · intro k hk
    obtain rfl : g = k := Option.some.inj hk
    exact ⟨h1, h2.lt, h8⟩
theorem OwnO.of_own (h : Own T E w0 w X v l) : OwnO T E w0 w X v l := by
  obtain ⟨css, h1, h2, h3⟩ := h
  rcases h1.2 with ⟨rfl, hn⟩ | ⟨g, cap, cur, rfl, hg, hh, hn, hm, hs, ht⟩
  · have : l = [] := List.eq_nil_of_length_eq_zero hn
    subst this
    exact .inl ⟨none, rfl, rfl, fun a h => by cases h⟩
  · rcases Nat.eq_zero_or_pos cap with hc | hc
    · subst hc
      have : l = [] := List.eq_nil_of_length_eq_zero (by omega)
      subst this
      exact .inl ⟨_, rfl, rfl, fun a ha => by obtain rfl := Option.some.inj ha; exact ⟨hg, Blk.lt (t := T) hh, h3 g rfl⟩⟩
    · refine .inr ⟨g, 0, cap, cur, css, rfl, hg, hh, hn, hm, hc, by rw [hs]; omega, fun j u hu => ?_, h2.mono fun k _ hk => hk.elim .inl fun h => .inr (by rw [h]; rfl), h3 g rfl⟩
      rw [← ht, List.getElem?_take] at hu
      split at hu
      · rw [Nat.zero_add, ← Array.getElem?_toList]; exact hu
      · cases hu
theorem OwnO.ext (h : OwnO T E w0 w X v l) (hx : Ext w w') : OwnO T E w0 w' X v l := by
  rcases h with ⟨A, e1, e2, hA⟩ | ⟨g, off, c, cur, css, rfl, h1, h2, h3, h4, h0, h5, h6, h7, h8⟩
  · exact .inl ⟨A, e1, e2, fun a ha => ⟨(hA a ha).1, Nat.lt_of_lt_of_le (hA a ha).2.1 hx.size, (hA a ha).2.2⟩⟩
  · exact .inr ⟨g, off, c, cur, css, rfl, h1, h2.ext hx, h3, h4, h0, h5, h6, h7.ext hx, h8⟩
theorem OwnO.chg {S : List Nat} (h : OwnO T E w0 w X v l) (hc : Chg S w w') (hs : ∀ k, k ∈ S → k < w.heap.size → X k) : OwnO T E w0 w' X v l := by
  rcases h with ⟨A, e1, e2, hA⟩ | ⟨g, off, c, cur, css, rfl, h1, h2, h3, h4, h0, h5, h6, h7, h8⟩
  · exact .inl ⟨A, e1, e2, fun a ha => ⟨(hA a ha).1, Nat.lt_of_lt_of_le (hA a ha).2.1 hc.size, (hA a ha).2.2⟩⟩
  · exact .inr ⟨g, off, c, cur, css, rfl, h1, h2.chg hc (fun hm => h8 (hs g hm h2.lt)), h3, h4, h0, h5, h6, h7.chg hc (fun k hk hl => .inl (hs k hk hl)), h8⟩
theorem OwnO.mono (h : OwnO T E w0 w X v l) (hs : ∀ k, k < w.heap.size → Y k → X k) : OwnO T E w0 w Y v l := by
  rcases h with ⟨A, e1, e2, hA⟩ | ⟨g, off, c, cur, css, rfl, h1, h2, h3, h4, h0, h5, h6, h7, h8⟩
  · exact .inl ⟨A, e1, e2, fun a ha => ⟨(hA a ha).1, (hA a ha).2.1, fun hy => (hA a ha).2.2 (hs _ (hA a ha).2.1 hy)⟩⟩
  · exact .inr ⟨g, off, c, cur, css, rfl, h1, h2, h3, h4, h0, h5, h6, h7.mono fun k hk hy => hy.elim (fun hy => .inl (hs k hk hy)) .inr, fun hy => h8 (hs g h2.lt hy)⟩
theorem OwnO.front {A : Option Addr} {n c k : Nat} (h : OwnO T E w0 w X (.slice A n c) l) (hk : k ≤ l.length) : OwnO T E w0 w X (.slice A k c) (l.take k) := by
  rcases h with ⟨A', he, rfl, hA⟩ | ⟨g, off, c', cur, css, he, h1, h2, h3, h4, h0, h5, h6, h7, h8⟩
  · simp only [Value.slice.injEq] at he
    obtain ⟨rfl, rfl, rfl⟩ := he
    obtain rfl : k = 0 := by simpa using hk
    exact .inl ⟨_, rfl, rfl, hA⟩
  · simp only [Value.slice.injEq] at he
    obtain ⟨rfl, rfl, rfl⟩ := he
    have hl : (l.take k).length = k := by rw [List.length_take, Nat.min_eq_left hk]
    refine .inr ⟨g, off, c, cur, css.take k, by rw [hl], h1, h2, by rw [hl]; omega, h4, h0, h5, fun j u hu => ?_, h7.take k, h8⟩
    rw [← flat_take css E.size k h7.lens, List.getElem?_take] at hu
    split at hu
    · exact h6 j u hu
    · cases hu
theorem OwnO.rest {A : Option Addr} {n c k : Nat} (h : OwnO T E w0 w X (.slice A n c) l) (hk : k ≤ l.length) : OwnO T E w0 w X (.slice (cutA E.size A c k) (l.length - k) (c - k)) (l.drop k) := by
  rcases h with ⟨A', he, rfl, hA⟩ | ⟨g, off, c', cur, css, he, h1, h2, h3, h4, h0, h5, h6, h7, h8⟩
  · simp only [Value.slice.injEq] at he
    obtain ⟨rfl, rfl, rfl⟩ := he
    obtain rfl : k = 0 := by simpa using hk
    exact .inl ⟨_, rfl, rfl, by unfold cutA; rw [if_pos rfl]; exact hA⟩
  · simp only [Value.slice.injEq] at he
    obtain ⟨rfl, rfl, rfl⟩ := he
    have hl : (l.drop k).length = l.length - k := List.length_drop
    by_cases hck : c = k
    · subst hck
      have : l.drop c = [] := List.drop_eq_nil_of_le h3
      rw [this, show l.length - c = 0 by omega, Nat.sub_self]
      exact .inl ⟨_, rfl, rfl, by unfold cutA; rw [if_pos rfl]; intro a ha; obtain rfl := Option.some.inj ha; exact ⟨h1, h2.lt, h8⟩⟩
    · have hca : cutA E.size (some (⟨g, off, none⟩ : Addr)) c k = some ⟨g, off + k * E.size, none⟩ := by
        unfold cutA
        rw [if_neg hck]
        simp only [Option.map_some]
        unfold Addr.add
        split
        · rename_i h; rw [h]; simp
        · rfl
      rw [hca]
      refine .inr ⟨g, off + k * E.size, c - k, cur, css.drop k, by rw [hl], h1, h2, by rw [hl]; omega, by omega, by omega, ?_, fun j u hu => ?_, h7.drop k, h8⟩
      · have : k * E.size + (c - k) * E.size = c * E.size := by rw [← Nat.add_mul]; congr 1; omega
        omega
      · rw [← flat_drop css E.size k h7.lens, List.getElem?_drop] at hu
        rw [Nat.add_assoc]
        exact h6 _ u hu
/-- append with room, from anywhere in a block -/
theorem run_append_roomO {P : Program} (w : World) (t ty e : TypeId) (i : TypeInfo) (ht : P.underlying t = some (.slice e)) (hi : P.info? e = some i)
    (g o sLen sCap : Nat) (cur : Array Value) (hg : w.heap[g]? = some (.cells cur e (0, 0)))
    (a : Addr) (m c : Nat) (news : List Value) (hl : news.length = m * i.size) (hnews : ∀ j u, news[j]? = some u → w.cell? (a.add j) = some u) (h1 : ∀ u ∈ news, u.oneCell' = true)
    (hroom : sLen + m ≤ sCap) (hfit : o + sLen * i.size + news.length ≤ cur.size) :
    (Builtin.append_ #[t, t] ty #[.slice (some ⟨g, o, none⟩) sLen sCap, .slice (some a) m c]).run P w =
      .ok (.slice (some ⟨g, o, none⟩) (sLen + m) sCap) (w.setRow g (cur.toList.take (o + sLen * i.size) ++ news ++ cur.toList.drop (o + sLen * i.size + news.length)).toArray) := by
  have hf := run_firstCells_some (P := P) w i.size m a m c news hl hnews
  have hst := run_storeCells_at P g (o + sLen * i.size) e news 0 cur w hg (by simpa using hfit) h1
  simp only [Nat.add_zero] at hst
  simp [Builtin.append_, run_underlying ht, sizeOf, typeInfo, hi, Builtin.lenOf, hroom, hf, Addr.add_lit, hst]
theorem blk_setRow {w : World} {g : Nat} {t : TypeId} {cur cs : Array Value} (h : Blk w g t cur) : Blk (w.setRow g cs) g t cs := by
  unfold Blk at h ⊢
  simp [World.setRow, Array.getElem?_modify, h]
/-- one more -/
theorem run_ownO {z : Value} {bytes : Nat} (ei : Elt T E z bytes) (t ty : TypeId) (ht : Try.prog.underlying t = some (.slice T)) (h : OwnO T E w0 w X v l) (hx0 : Ext w0 w) {a : α}
    {y : Value} (hy : Enc.Sl E w (fun k => X k ∨ v.ownBlock = some k) y [a]) (hX : ∀ k, X k → k < w.heap.size) (hlen : (l.length + 1) * bytes ≤ 140737488355328) (hl2 : l.length + 1 ≤ 140737488355328) :
    ∃ v' w', (Builtin.append_ #[t, t] ty #[v, y]).run Try.prog w = .ok v' w' ∧ OwnO T E w0 w' X v' (l ++ [a]) ∧ Ext w0 w' ∧ Chg v.ownBlock.toList w w' ∧ ∀ k, v'.ownBlock = some k → v.ownBlock = some k ∨ w.heap.size ≤ k := by
  obtain ⟨A, c, cs2, rfl, k1, k2, k3, k4, k5⟩ := hy
  obtain ⟨i0, hi, hz0, hz1, hz2⟩ := info_parts ei.info
  obtain ⟨ad, rfl, hb, hcell⟩ := k3.2 (by simp)
  have hone := k5.one
  have hnl : cs2.flatten.length = 1 * E.size := by simpa using k3.1
  simp only [List.length_singleton] at *
  have hm1 : l.length + 1 ≤ maxLen := by simp only [maxLen]; omega
  -- in a block of its own
  have hnew : ∀ (css : List (List Value)) (v' : Value) (w' : World), Enc.Each E w X css l → w'.ownsRow w.heap.size T E.size v' (l.length + 1) (css.flatten ++ cs2.flatten) → w.grownBy w' none → OwnO T E w0 w' X v' (l ++ [a]) ∧ Ext w w' ∧ ∀ k, v'.ownBlock = some k → w.heap.size ≤ k := by
    intro css v' w' he ho hg
    have hxx : Ext w w' := (Ext.rfl' w).grown' hg (fun k hk => by cases hk)
    refine ⟨.of_own ⟨css ++ cs2, ?_, ?_, fun k hk hx => ?_⟩, hxx, fun k hk => (ho.lt k hk).1⟩
    · rw [List.flatten_append, List.length_append, List.length_singleton]
      exact own_base ho hx0.size
    · refine Enc.Each.app ((he.mono fun k hk hy => ?_).ext hxx) ((k5.mono fun k hk hy => ?_).ext hxx)
      · rcases hy with hy | hy
        · exact hy
        · have := (ho.lt k hy).1; omega
      · rcases hy with hy | hy
        · exact .inl hy
        · have := (ho.lt k hy).1; omega
    · have := (ho.lt k hk).1; have := hX k hx; omega
  rcases h with ⟨A, rfl, rfl, hA⟩ | ⟨g, off, c', cur, css, rfl, h1, h2, h3, h4, h0, h5, h6, h7, h8⟩
  · have hgrow : ∃ v' w', (Builtin.append_ #[t, t] ty #[.slice A 0 0, .slice (some ad) 1 c]).run Try.prog w = .ok v' w' ∧ w'.ownsRow w.heap.size T E.size v' 1 cs2.flatten ∧ w.grownBy w' none := by
      cases A with
      | some b =>
        obtain ⟨v', w', hr, ho, hg⟩ := run_append_arg_grows (P := Try.prog) w t ty T i0 z E.size bytes ht hi hz0 hz1 hz2 ei.zs ei.pos b 0 0 [] (by simp) (fun j u hu => by simp at hu) ad 1 c cs2.flatten hnl hcell (by omega) (by simp [maxLen]) (by simpa using hlen)
        exact ⟨v', w', hr, by simpa using ho, hg⟩
      | none =>
        obtain ⟨v', w', hr, ho, hg, -⟩ := run_append_any (P := Try.prog) w w.heap.size t ty T i0 z E.size bytes ht hi hz0 hz1 hz2 ei.zs ei.pos (.slice none 0 0) 0 [] (World.ownsRow_nil w w.heap.size T E.size) w.heap.size (some ad) 1 c cs2.flatten ⟨hnl, fun _ => ⟨ad, rfl, hb, hcell⟩⟩ hone (by simp [maxLen]) (by simpa using hlen) (Nat.le_refl _)
        exact ⟨v', w', hr, by simpa using ho, hg⟩
    obtain ⟨v', w', hr, ho, hg⟩ := hgrow
    obtain ⟨h9, hxx, hob⟩ := hnew [] v' w' (Enc.Each.nil E w X) (by simpa using ho) hg
    exact ⟨v', w', hr, h9, hx0.trans' hxx, hxx.chg _, fun k hk => .inr (hob k hk)⟩
  · have hcl : css.flatten.length = l.length * E.size := h7.len
    by_cases hroom : l.length + 1 ≤ c'
    · have hfit : off + l.length * E.size + cs2.flatten.length ≤ cur.size := by
        rw [hnl, Nat.add_assoc, ← Nat.add_mul]
        exact Nat.le_trans (Nat.add_le_add_left (Nat.mul_le_mul_right _ hroom) _) h5
      have hr := run_append_roomO (P := Try.prog) w t ty T i0 ht hi g off l.length c' cur h2 ad 1 c cs2.flatten (by rw [hz1]; exact hnl) hcell hone hroom (by rw [hz1]; exact hfit)
      rw [hz1] at hr
      have hcg : Chg [g] w (w.setRow g (cur.toList.take (off + l.length * E.size) ++ cs2.flatten ++ cur.toList.drop (off + l.length * E.size + cs2.flatten.length)).toArray) :=
        ⟨rfl, rfl, rfl, by simp, fun k _ hn => setRow_other w g k _ (by simpa using hn)⟩
      have hob : (Value.slice (some (⟨g, off, none⟩ : Addr)) l.length c').ownBlock = some g := rfl
      rw [hob] at k5 ⊢
      refine ⟨_, _, hr, .inr ⟨g, off, c', _, css ++ cs2, by rw [List.length_append]; rfl, h1, blk_setRow h2, by rw [List.length_append]; exact hroom, h4, h0, ?_, fun j u hu => ?_, ?_, h8⟩, hx0.then_ hcg (by simpa using h1), hcg, fun k hk => .inl hk⟩
      · simp only [List.size_toArray, List.length_append, List.length_take, List.length_drop, Array.length_toList]
        omega
      · rw [List.flatten_append] at hu
        rw [List.getElem?_toArray]
        rcases Nat.lt_or_ge j css.flatten.length with hj | hj
        · rw [List.getElem?_append_left hj] at hu
          rw [List.append_assoc, List.getElem?_append_left (by rw [List.length_take, Array.length_toList (xs := cur)]; omega), List.getElem?_take, if_pos (by omega), Array.getElem?_toList]
          exact h6 j u hu
        · rw [List.getElem?_append_right hj] at hu
          have hlt := (List.getElem?_eq_some_iff.1 hu).1
          rw [List.append_assoc, List.getElem?_append_right (by rw [List.length_take, Array.length_toList (xs := cur)]; omega), List.length_take, Array.length_toList (xs := cur), Nat.min_eq_left (by omega), show off + j - (off + l.length * E.size) = j - css.flatten.length by omega, List.getElem?_append_left hlt]
          exact hu
      · refine Enc.Each.app (h7.chg hcg fun k hk _ => .inr (by simpa using hk)) ((k5.mono fun k _ hy => ?_).chg hcg fun k hk _ => .inr (by simpa using hk))
        exact hy.elim .inl fun h => .inr (by rw [h])
    · obtain ⟨v', w', hr, ho, hg⟩ := run_append_arg_grows (P := Try.prog) w t ty T i0 z E.size bytes ht hi hz0 hz1 hz2 ei.zs ei.pos ⟨g, off, none⟩ l.length c' css.flatten hcl (fun j u hu => by
        have hadd : (⟨g, off, none⟩ : Addr).add j = ⟨g, off + j, none⟩ := by unfold Addr.add; split <;> simp_all
        rw [hadd, h2.cell]
        exact h6 j u hu) ad 1 c cs2.flatten hnl hcell (by omega) hm1 hlen
      obtain ⟨h9, hxx, hob⟩ := hnew css v' w' (h7.mono fun k _ h => .inl h) ho hg
      exact ⟨v', w', hr, h9, hx0.trans' hxx, hxx.chg _, fun k hk => .inr (hob k hk)⟩
theorem own_any {A : Option Addr} {n n2 c1 c2 : Nat} : ∀ j, (Value.slice A n c1).ownBlock = some j → (Value.slice A n2 c2).ownBlock = some j := by
  intro j h
  cases A with
  | none => cases h
  | some a => exact h
theorem cutA_ownO {s : Nat} {A : Option Addr} {c k n n2 c1 c2 : Nat} : ∀ j, (Value.slice (cutA s A c k) n c1).ownBlock = some j → (Value.slice A n2 c2).ownBlock = some j := by
  intro j h
  unfold cutA at h
  cases A with
  | none => split at h <;> cases h
  | some a =>
    split at h
    · obtain rfl : a.block = j := Option.some.inj h
      rfl
    · have : (a.add (k * s)).block = j := Option.some.inj h
      rw [block_of_add] at this
      rw [← this]
      rfl
theorem step_ownO {ops : Array Oper} {o : Oper} {ac : Act} {K : Act → World → Prop} {Q : Exit → Act → World → Prop} {G : Prop} {z : Value} {bytes : Nat} (ei : Elt T E z bytes) (t : TypeId) (ht : Try.prog.underlying t = some (.slice T)) (hgd : o.guard = none) (s x : Operand)
    (ho : o.op = .call { callee := .builtin .append, args := #[s, x], argTypes := #[t, t] }) (h : OwnO T E w0 w X v l) (hs : ac.eval s = v) (hx0 : Ext w0 w) {a : α}
    {y : Value} (hx : ac.eval x = y) (hy : Enc.Sl E w (fun k => X k ∨ v.ownBlock = some k) y [a]) (hX : ∀ k, X k → k < w.heap.size) (hlen : (l.length + 1) * bytes ≤ 140737488355328) (hl2 : l.length + 1 ≤ 140737488355328)
    (hK : ∀ (k : List α) (A : Option Addr) (c : Nat) (w' : World), Hid (k = l ++ [a]) → OwnO T E w0 w' X (.slice A k.length c) k → Ext w0 w' → Chg v.ownBlock.toList w w' → (∀ j, (Value.slice A k.length c).ownBlock = some j → v.ownBlock = some j ∨ w.heap.size ≤ j) → K (ac.put o.dst (.slice A k.length c)) w') :
    if Region.wanted o (yielded ops ac.tmps) = true then Oper.wp Try.prog o ac w K Q else G := by
  have hw : Region.wanted o (yielded ops ac.tmps) = true := by simp [Region.wanted, hgd]
  rw [if_pos hw]
  obtain ⟨v', w', hrun, h2, h3, h4, h5⟩ := run_ownO ei t o.type ht h hx0 hy hX hlen hl2
  obtain ⟨A, c, rfl, _, _⟩ := h2.form
  unfold Oper.wp execOp
  simp only [ho, resolve, invoke, builtin, Sem.run_bind, Sem.run_pure, Result.andThen_ok, List.map_toArray, List.map_cons, List.map_nil, hs, hx, hrun]
  exact hK (l ++ [a]) A c w' (hide rfl) h2 h3 h4 h5
end
end Go.Proofs.Ytlblgopfdadalaa
namespace Go.Proofs.Ytlblgopfdadalaa
set_option linter.unusedVariables false
set_option linter.unusedSimpArgs false
set_option linter.unnecessarySimpa false
set_option maxRecDepth 100000
open Go.RowKit
theorem flat_set_cell (u : Value) : ∀ (css : List (List Value)) (s i j : Nat) (cs : List Value), (∀ c ∈ css, c.length = s) → j < s → css[i]? = some cs → (css.set i (cs.set j u)).flatten = css.flatten.set (i * s + j) u
  | [], s, i, j, cs, _, _, h => by simp at h
  | c :: css, s, 0, j, cs, hl, hj, h => by
    obtain rfl : c = cs := by simpa using h
    rw [List.set_cons_zero, List.flatten_cons, List.flatten_cons, Nat.zero_mul, Nat.zero_add, List.set_append, if_pos (by rw [hl c List.mem_cons_self]; exact hj)]
  | c :: css, s, i + 1, j, cs, hl, hj, h => by
    have hc := hl c List.mem_cons_self
    rw [List.set_cons_succ, List.flatten_cons, List.flatten_cons, flat_set_cell u css s i j cs (fun d hd => hl d (List.mem_cons_of_mem _ hd)) hj (by simpa using h), List.set_append, if_neg (by rw [hc, Nat.succ_mul]; omega), hc]
    congr 2
    rw [Nat.succ_mul]; omega
section
variable {α : Type} {T : TypeId} {E : Enc α} {w0 w w' : World} {X : Avoid} {g cap : Nat} {l : List α}
theorem Own.openG {v : Value} (h : Own T E w0 w X v l) (hn : 0 < l.length) : ∃ g cap cur css, v = .slice (some ⟨g, 0, none⟩) l.length cap ∧ Blk w g T cur ∧ w0.heap.size ≤ g ∧ l.length ≤ cap ∧ cap ≤ maxLen ∧
    cur.size = cap * E.size ∧ cur.toList.take (l.length * E.size) = css.flatten ∧ Enc.Each E w (fun k => X k ∨ k = g) css l ∧ ¬ X g := by
  obtain ⟨css, ⟨_, h1⟩, h2, h3⟩ := h
  rcases h1 with ⟨_, h0⟩ | ⟨g, cap, cur, rfl, hb, hg, hc, hm, hs, ht⟩
  · omega
  · exact ⟨g, cap, cur, css, rfl, hg, hb, hc, hm, hs, ht, h2.mono fun k _ hk => hk.elim .inl fun h => .inr (by rw [h]; rfl), h3 g rfl⟩
theorem Own.blkG (h : Own T E w0 w X (.slice (some ⟨g, 0, none⟩) l.length cap) l) (hn : 0 < l.length) : ∃ cur css, Blk w g T cur ∧ w0.heap.size ≤ g ∧ l.length ≤ cap ∧ cap ≤ maxLen ∧ cur.size = cap * E.size ∧ cur.toList.take (l.length * E.size) = css.flatten ∧ Enc.Each E w (fun k => X k ∨ k = g) css l ∧ ¬ X g := by
  obtain ⟨g', cap', cur, css, he, h1, h2, h3, h4, h5, h6, h7, h8⟩ := h.openG hn
  simp only [Value.slice.injEq, Option.some.injEq, Addr.mk.injEq, and_true, true_and] at he
  obtain ⟨rfl, rfl⟩ := he
  exact ⟨cur, css, h1, h2, h3, h4, h5, h6, h7, h8⟩
theorem Own.cellG (h : Own T E w0 w X (.slice (some ⟨g, 0, none⟩) l.length cap) l) {i j : Nat} (hi : i < l.length) (hj : j < E.size) {a : α} {u : Value} (hr : ∀ cs, E.rep w (fun k => X k ∨ k = g) cs l[i] → E.rep w (fun k => X k ∨ k = g) (cs.set j u) a) :
    Own T E w0 (w.setCell ⟨g, i * E.size + j, none⟩ u) X (.slice (some ⟨g, 0, none⟩) l.length cap) (l.set i a) := by
  obtain ⟨cur, css, h1, h2, h3, h4, h5, h6, h7, h8⟩ := h.blkG (by omega)
  have hic : i < css.length := by rw [h7.1]; exact hi
  have hcs : css[i]? = some css[i] := List.getElem?_eq_getElem hic
  have hre := hr _ (h7.2 i _ _ hcs (List.getElem?_eq_getElem hi))
  have hcg : Chg [g] w (w.setCell ⟨g, i * E.size + j, none⟩ u) := (Chg.refl _ _).set (by simp) _
  have hfl : css.flatten.length = l.length * E.size := h7.len
  have hB := h1.set_ (i * E.size + j) u
  have hfs := flat_set_cell u css E.size i j css[i] h7.lens hj hcs
  have hE : Enc.Each E w (fun k => X k ∨ k = g) (css.set i (css[i].set j u)) (l.set i a) := by
    refine ⟨by simp [h7.1], fun k c b e1 e2 => ?_⟩
    rw [List.getElem?_set] at e1 e2
    by_cases hki : i = k
    · rw [if_pos hki] at e1 e2
      rw [if_pos hic] at e1
      rw [if_pos hi] at e2
      obtain rfl := Option.some.inj e1
      obtain rfl := Option.some.inj e2
      exact hre
    · rw [if_neg hki] at e1 e2
      exact h7.2 k c b e1 e2
  refine ⟨css.set i (css[i].set j u), ⟨?_, .inr ⟨g, cap, _, by rw [List.length_set], h2, hB, by rw [List.length_set]; exact h3, h4, by rw [Array.size_setIfInBounds]; exact h5, ?_⟩⟩, (hE.mono fun k _ hk => ?_).chg hcg (fun k hk _ => .inr ?_), fun k hk => ?_⟩
  · rw [hfs, List.length_set, hfl, List.length_set]
  · rw [hfs, ← h6, List.length_set, Array.toList_setIfInBounds, List.take_set]
  · exact hk.elim .inl fun h => .inr (Option.some.inj h).symm
  · obtain rfl := List.mem_singleton.1 hk
    rfl
  · obtain rfl := Option.some.inj hk
    exact h8
theorem own_cellsG {k : Nat} (h : Own T E w0 w X (.slice (some ⟨g, 0, none⟩) l.length cap) l) (hk : k < l.length) : ∃ a cs, Hid (l[k]? = some a) ∧ g < w.heap.size ∧ E.rep w (fun j => X j ∨ j = g) cs a ∧ ∀ j u, cs[j]? = some u → w.cell? ⟨g, k * E.size + j, none⟩ = some u := by
  obtain ⟨cur, css, h1, h2, h3, h4, h5, h6, h7, h8⟩ := h.blkG (by omega)
  have hkc : k < css.length := by rw [h7.1]; exact hk
  have hcs : css[k]? = some css[k] := List.getElem?_eq_getElem hkc
  refine ⟨l[k], css[k], hide (List.getElem?_eq_getElem hk), h1.lt, h7.2 k _ _ hcs (List.getElem?_eq_getElem hk), fun j u hu => ?_⟩
  have h9 := Enc.flatten_at css k css[k] h7.lens hcs j u hu
  rw [← h6, List.getElem?_take] at h9
  split at h9
  · rw [h1.cell, ← Array.getElem?_toList]; exact h9
  · cases h9
theorem set_sameG (l : List α) (k : Nat) (a : α) (h : l[k]? = some a) : l.set k a = l := by
  obtain ⟨h1, h2⟩ := List.getElem?_eq_some_iff.1 h
  rw [← h2, List.set_getElem_self]
end
end Go.Proofs.Ytlblgopfdadalaa
namespace Go.Proofs.Ytlblgopfdadalaa
set_option linter.unusedVariables false
set_option linter.unusedSimpArgs false
set_option linter.unnecessarySimpa false
set_option maxRecDepth 100000
open Go.RowKit
abbrev U64 (n : Int) : Prop := 0 ≤ n ∧ n ≤ 18446744073709551615
end Go.Proofs.Ytlblgopfdadalaa
namespace Go.Proofs.Ytlblgopfdadalaa
set_option linter.unusedVariables false
set_option linter.unusedSimpArgs false
set_option linter.unnecessarySimpa false
set_option maxRecDepth 100000
open Go.RowKit
abbrev enE : Enc En := Enc.map (.pair .u64 (.pair .byts .unit)) fun h => (h.term, h.data, ())
abbrev snE : Enc Sn := Enc.map (.pair .u64 (.pair .u64 (.pair .byts .unit))) fun h => (h.index, h.term, h.state, ())
open Enc in
theorem enE_opens : Opens 74 enE :=
  (opens_struct Try.underlying74 (by kernel_rfl) (.cons rfl (by kernel_rfl) (opens_int Try.underlying22 wf_u64) (.cons rfl (by kernel_rfl) (opens_bytes Try.underlying24 Try.underlying5 (by kernel_rfl)) (.nil _)))).map _ fun ⟨a, b, _⟩ => ⟨⟨a, b⟩, rfl⟩
open Enc in
theorem snE_opens : Opens 26 snE :=
  (opens_struct Try.underlying26 (by kernel_rfl) (.cons rfl (by kernel_rfl) (opens_int Try.underlying22 wf_u64) (.cons rfl (by kernel_rfl) (opens_int Try.underlying22 wf_u64) (.cons rfl (by kernel_rfl) (opens_bytes Try.underlying24 Try.underlying5 (by kernel_rfl)) (.nil _))))).map _ fun ⟨a, b, c, _⟩ => ⟨⟨a, b, c⟩, rfl⟩
abbrev encells (e : En) (v : Value) : List Value := [.int .u64 e.term, v]
abbrev sncells (s : Sn) (v : Value) : List Value := [.int .u64 s.index, .int .u64 s.term, v]
theorem en_rep {w : World} {X : Avoid} {cs : List Value} {e : En} : enE.rep w X cs e ↔ ∃ v, cs = encells e v ∧ (0 ≤ e.term ∧ e.term ≤ 18446744073709551615) ∧ Enc.BsX w X v e.data := by
  constructor
  · rintro ⟨b1, b2, rfl, ⟨rfl, h4⟩, b3, b4, rfl, ⟨v1, rfl, h5⟩, rfl⟩
    exact ⟨v1, rfl, h4, h5⟩
  · rintro ⟨v, rfl, h4, h5⟩
    exact ⟨[_], [_], rfl, ⟨rfl, h4⟩, [_], [], rfl, ⟨_, rfl, h5⟩, rfl⟩
theorem en_at {w : World} {X : Avoid} {A : Option Addr} {n c k : Nat} {l : List En} (h : Enc.Sl enE w X (.slice A n c) l) (hk : k < l.length) : ∃ (ad : Addr) (e : En) (v : Value), A = some ad ∧ Hid (l[k]? = some e) ∧ ad.block < w.heap.size ∧
    w.cell? (ad.add (k * 2)) = some (.int .u64 e.term) ∧ w.cell? ⟨(ad.add (k * 2)).block, (ad.add (k * 2)).off + 1, none⟩ = some v ∧ (0 ≤ e.term ∧ e.term ≤ 18446744073709551615) ∧ Enc.BsX w X v e.data := by
  obtain ⟨ad, cs, rfl, hrep, hb, hcell⟩ := h.at_ hk
  obtain ⟨v, rfl, r1, r2⟩ := en_rep.1 hrep
  exact ⟨ad, _, v, rfl, hide (List.getElem?_eq_getElem hk), hb, Enc.cell0 hcell rfl, Enc.cellS hcell 0 rfl, r1, r2⟩
theorem elt_en : Elt 74 enE (.agg #[.int .u64 0, .slice none 0 0]) 32 := ⟨by kernel_rfl, rfl, by decide⟩
end Go.Proofs.Ytlblgopfdadalaa
namespace Go.Proofs.Ytlblgopfdadalaa
set_option linter.unusedVariables false
set_option linter.unusedSimpArgs false
set_option linter.unnecessarySimpa false
set_option maxRecDepth 100000
open Go.RowKit
theorem results_cell2 {P : Program} {fn : Func} {p u : Tmp} {ty : TypeId} (h : fn.results = #[.cell p ty, .tmp u]) (tmps : Array Value) (w : World) (g : Nat) (t : TypeId) (cs : Array Value) (fr : Nat × Nat) (d : TypeDesc)
    (hp : tmps.getD p undef = .pointer (some ⟨g, 0, none⟩)) (hg : w.heap[g]? = some (.cells cs t fr))
    (hu : P.underlying ty = some d) (hd : (match d with | .struct _ | .array _ _ => true | _ => false) = true) (hi : (P.info? ty).map (·.size) = some cs.size) :
    (results fn tmps).run P w = .ok (.tuple #[.agg cs, tmps.getD u undef]) w := by
  rw [results_cell_tmp h, hp]
  simp [asAddr, run_loadVar_row w g t ty cs fr d hg hu hd hi]
end Go.Proofs.Ytlblgopfdadalaa
