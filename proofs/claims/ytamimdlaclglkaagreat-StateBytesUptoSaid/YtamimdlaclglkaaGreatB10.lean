/- A part of the proof of 'StateBytes'. -/
import Derived.Test.YtamimdlaclglkaaGreatB9
import Derived.Test.YtamimdlaclglkaaGreatB1
import Derived.Laws.ResultCell
import Derived.Test.YtamimdlaclglkaaGreatB5
import Derived.Laws.StructEq
namespace Go.Proofs.YtamimdlaclglkaaGreat
set_option linter.unusedVariables false
set_option linter.unusedSimpArgs false
set_option linter.unnecessarySimpa false
set_option maxRecDepth 100000
open Go.RowKit
def RetIdx {α : Type} (p : α → Bool) (l : List α) (w w' : World) (e : Ending) : Prop := (∃ r : Int, e = .returned (.int .i64 r) ∧ Hid ((r = -1 ∧ ∀ a ∈ l, p a = false) ∨ ∃ n : Nat, r = n ∧ n < l.length ∧ (∀ m a, m < n → l[m]? = some a → p a = false) ∧ ∀ a, l[n]? = some a → p a = true)) ∧ Ext w w'
theorem wpList_clear_run {P : Program} {w : World} {ops : Array Oper} {rest : List Oper} {o : Oper} {a : Act} {Q : Exit → Act → World → Prop} (hgd : o.guard = none) (s : Operand) (ts : Array TypeId)
    (ho : o.op = .call { callee := .builtin .clear, args := #[s], argTypes := ts }) (u : Value) (hs : a.eval s = u) {v : Value} {w' : World}
    (hr : (Builtin.clear_ ts o.type #[u]).run P w = .ok v w') (h : wpList P ops Q rest (a.put o.dst v) w') : wpList P ops Q (o :: rest) a w :=
  wpList_plain hgd fun _ hK => by
    unfold Oper.wp execOp
    simp only [ho, resolve, invoke, builtin, Sem.run_bind, Sem.run_pure, Result.andThen_ok, List.map_toArray, List.map_cons, List.map_nil, hs, hr]
    exact hK _ _ h
/-- what of the first b is kept, with its cells -/
def keepC {α : Type} (p : α → Bool) (css : List (List Value)) (l : List α) (b : Nat) : List (List Value × α) := ((css.zip l).take b).filter fun x => !p x.2
theorem keepC_succ {α : Type} (p : α → Bool) (css : List (List Value)) (l : List α) (b : Nat) (cs : List Value) (a : α) (h1 : css[b]? = some cs) (h2 : l[b]? = some a) : keepC p css l (b + 1) = keepC p css l b ++ if p a then [] else [(cs, a)] := by
  unfold keepC
  have h : (css.zip l)[b]? = some (cs, a) := by rw [List.getElem?_zip_eq_some]; exact ⟨h1, h2⟩
  rw [List.take_add_one, h, List.filter_append]
  cases hp : p a <;> simp [hp]
theorem keepC_all {α : Type} (p : α → Bool) (css : List (List Value)) (l : List α) (h : css.length = l.length) : (keepC p css l l.length).map (·.2) = l.filter fun a => !p a := by
  unfold keepC
  rw [List.take_of_length_le (by simp [h])]
  have e : l = (css.zip l).map Prod.snd := (List.map_snd_zip (by omega)).symm
  conv => rhs; rw [e, List.filter_map]
  rfl
theorem keepC_first {α : Type} (p : α → Bool) (css : List (List Value)) (l : List α) (h : css.length = l.length) (n : Nat) (hn : n < l.length) (h1 : ∀ m a, m < n → l[m]? = some a → p a = false) (h2 : ∀ a, l[n]? = some a → p a = true) :
    (keepC p css l (n + 1)).length = n ∧ ((keepC p css l (n + 1)).map (·.1)) = css.take n := by
  have e0 : keepC p css l n = (css.zip l).take n := by
    unfold keepC
    rw [List.filter_eq_self]
    intro x hx
    obtain ⟨m, hm⟩ := List.mem_iff_getElem?.1 hx
    rw [List.getElem?_take] at hm
    split at hm
    · rename_i hmn
      rw [List.getElem?_zip_eq_some] at hm
      rw [h1 m _ hmn hm.2]; rfl
    · cases hm
  have hc : css[n]? = some css[n] := List.getElem?_eq_getElem (by omega)
  have hl : l[n]? = some l[n] := List.getElem?_eq_getElem hn
  rw [keepC_succ p css l n _ _ hc hl, h2 _ hl, e0]
  simp only [if_true, List.append_nil]
  refine ⟨by simp [h]; omega, ?_⟩
  rw [List.map_take, List.map_fst_zip (by omega)]
theorem keepC_each {α : Type} {E : Enc α} {w : World} {X : Avoid} {p : α → Bool} {css : List (List Value)} {l : List α} (h : Enc.Each E w X css l) (b : Nat) : Enc.Each E w X ((keepC p css l b).map (·.1)) ((keepC p css l b).map (·.2)) := by
  refine ⟨by simp, fun k cs a h1 h2 => ?_⟩
  rw [List.getElem?_map, Option.map_eq_some_iff] at h1 h2
  obtain ⟨x, h1, rfl⟩ := h1
  obtain ⟨y, h2, rfl⟩ := h2
  rw [h1] at h2
  obtain rfl := Option.some.inj h2
  have hx : x ∈ css.zip l := List.mem_of_mem_take (List.mem_filter.1 (List.mem_of_getElem? h1)).1
  obtain ⟨m, hm⟩ := List.mem_iff_getElem?.1 hx
  rw [List.getElem?_zip_eq_some] at hm
  exact h.2 m _ _ hm.1 hm.2
theorem Blk.has3 {W : World} {g : Nat} {T : TypeId} {cur : Array Value} (h : Blk W g T cur) (o : Nat) (ho : o + 3 ≤ cur.size) : ∃ u0 u1 u2, W.cell? ⟨g, o, none⟩ = some u0 ∧ W.cell? ⟨g, o + 1, none⟩ = some u1 ∧ W.cell? ⟨g, o + 2, none⟩ = some u2 ∧
    W.frozen? ⟨g, o, none⟩ = false ∧ W.frozen? ⟨g, o + 1, none⟩ = false ∧ W.frozen? ⟨g, o + 2, none⟩ = false :=
  ⟨cur[o], cur[o + 1], cur[o + 2], (h.cell _).trans (Array.getElem?_eq_getElem _), (h.cell _).trans (Array.getElem?_eq_getElem _), (h.cell _).trans (Array.getElem?_eq_getElem _), h.frozen _, h.frozen _, h.frozen _⟩
theorem Blk.st3 {W : World} {g : Nat} {T : TypeId} {cur : Array Value} (h : Blk W g T cur) (o : Nat) (a b c : Value) :
    Blk (((W.setCell ⟨g, o, none⟩ a).setCell ⟨g, o + 1, none⟩ b).setCell ⟨g, o + 2, none⟩ c) g T (((cur.setIfInBounds o a).setIfInBounds (o + 1) b).setIfInBounds (o + 2) c) :=
  ((h.set_ o a).set_ (o + 1) b).set_ (o + 2) c
theorem Chg.st3 {S : List Nat} {w W : World} {g : Nat} (h : Chg S w W) (hg : g ∈ S) (o : Nat) (a b c : Value) :
    Chg S w (((W.setCell ⟨g, o, none⟩ a).setCell ⟨g, o + 1, none⟩ b).setCell ⟨g, o + 2, none⟩ c) :=
  ((h.set hg _).set hg _).set hg _
theorem Blk.has4 {W : World} {g : Nat} {T : TypeId} {cur : Array Value} (h : Blk W g T cur) (o : Nat) (ho : o + 4 ≤ cur.size) : ∃ u0 u1 u2 u3, W.cell? ⟨g, o, none⟩ = some u0 ∧ W.cell? ⟨g, o + 1, none⟩ = some u1 ∧ W.cell? ⟨g, o + 2, none⟩ = some u2 ∧ W.cell? ⟨g, o + 3, none⟩ = some u3 ∧
    W.frozen? ⟨g, o, none⟩ = false ∧ W.frozen? ⟨g, o + 1, none⟩ = false ∧ W.frozen? ⟨g, o + 2, none⟩ = false ∧ W.frozen? ⟨g, o + 3, none⟩ = false :=
  ⟨cur[o], cur[o + 1], cur[o + 2], cur[o + 3], (h.cell _).trans (Array.getElem?_eq_getElem _), (h.cell _).trans (Array.getElem?_eq_getElem _), (h.cell _).trans (Array.getElem?_eq_getElem _), (h.cell _).trans (Array.getElem?_eq_getElem _), h.frozen _, h.frozen _, h.frozen _, h.frozen _⟩
theorem Blk.st4 {W : World} {g : Nat} {T : TypeId} {cur : Array Value} (h : Blk W g T cur) (o : Nat) (a b c d : Value) :
    Blk ((((W.setCell ⟨g, o, none⟩ a).setCell ⟨g, o + 1, none⟩ b).setCell ⟨g, o + 2, none⟩ c).setCell ⟨g, o + 3, none⟩ d) g T ((((cur.setIfInBounds o a).setIfInBounds (o + 1) b).setIfInBounds (o + 2) c).setIfInBounds (o + 3) d) :=
  (((h.set_ o a).set_ (o + 1) b).set_ (o + 2) c).set_ (o + 3) d
theorem Chg.st4 {S : List Nat} {w W : World} {g : Nat} (h : Chg S w W) (hg : g ∈ S) (o : Nat) (a b c d : Value) :
    Chg S w ((((W.setCell ⟨g, o, none⟩ a).setCell ⟨g, o + 1, none⟩ b).setCell ⟨g, o + 2, none⟩ c).setCell ⟨g, o + 3, none⟩ d) :=
  (((h.set hg _).set hg _).set hg _).set hg _
theorem zeros_one (cs : Array Value) (n : Nat) (h : ∀ v ∈ cs.toList, v.oneCell' = true) : ∀ v ∈ (Builtin.zeroCells cs n).toList, v.oneCell' = true := by
  intro v hv
  unfold Builtin.zeroCells at hv
  simp only [Array.toList_map, Array.toList_range, List.mem_map, List.mem_range] at hv
  obtain ⟨i, hi, rfl⟩ := hv
  have h0 : 0 < cs.size := by
    rcases Nat.eq_zero_or_pos cs.size with h | h
    · rw [h] at hi; omega
    · exact h
  have hm : i % cs.size < cs.size := Nat.mod_lt _ h0
  rw [getElem!_pos cs (i % cs.size) hm]
  exact h _ (by simp)
theorem drop_past {α : Type} (A B : List α) (n m : Nat) (h : n = A.length + m) : (A ++ B).drop n = B.drop m := by
  subst h; rw [List.drop_append]; simp
theorem split3 {α : Type} (l : List α) (o n : Nat) (h : o + n ≤ l.length) : ∃ A C B, l = A ++ (C ++ B) ∧ A.length = o ∧ C.length = n := by
  refine ⟨l.take o, (l.drop o).take n, (l.drop o).drop n, ?_, by simp; omega, by simp; omega⟩
  rw [List.take_append_drop, List.take_append_drop]
theorem set3 {α : Type} (l : List α) (o : Nat) (a b c : α) (h : o + 3 ≤ l.length) : ((l.set o a).set (o + 1) b).set (o + 2) c = l.take o ++ [a, b, c] ++ l.drop (o + 3) := by
  obtain ⟨A, C, B, rfl, rfl, hC⟩ := split3 l o 3 h
  match C, hC with
  | [x, y, z], _ => simp [List.set_append, List.take_append, List.drop_append]
theorem set4 {α : Type} (l : List α) (o : Nat) (a b c d : α) (h : o + 4 ≤ l.length) : (((l.set o a).set (o + 1) b).set (o + 2) c).set (o + 3) d = l.take o ++ [a, b, c, d] ++ l.drop (o + 4) := by
  obtain ⟨A, C, B, rfl, rfl, hC⟩ := split3 l o 4 h
  match C, hC with
  | [x, y, z, u], _ => simp [List.set_append, List.take_append, List.drop_append]
set_option maxHeartbeats 1600000 in
theorem idxDn_b (p : Dn → Bool) (c0 c1 : Value) (x : Value) (l : List Dn) (w : World) (hl : l.length ≤ 100000) (hx : Enc.Sl dnE w noneAt x l)
    (hp : ∀ W (s : Dn), Ext w W → U64 s.seq → Calls Tryz.prog 63 #[.agg #[.int .u64 s.seq, .int .i64 s.an.err, str s.an.text], c0, c1] W fun e W' => e = .returned (.bool (p s)) ∧ Ext W W') :
    Calls Tryz.prog 95 #[x, .func (.func 63) #[] #[c0, c1]] w fun e w' => RetIdx p l w w' e := by
  obtain ⟨A, cap, rfl, k1, k2⟩ := hx.form
  have HP := hide hp
  clear hp
  go_enter Tryz.func95, Tryz.ntmps95
  go_wp2
  go_loopw [8] (fun i wr => ∃ a : Nat, a ≤ l.length ∧ i = .int .i64 a ∧ Hid (∀ m s, m < a → l[m]? = some s → p s = false) ∧ Ext w wr) (fun i _ => (l.length - intOf i).toNat)
  case atStart => exact ⟨0, Nat.zero_le _, rfl, hide (fun m s h => by omega), Ext.rfl' w⟩
  case round =>
    obtain ⟨a, hal, rfl, hlo, hx1⟩ := hrel
    by_cases hlt : a < l.length
    · obtain ⟨ad, s, rfl, hs, hbk, p0, p1, p2, r1, r2, r3⟩ := dn_at (hx.ext hx1) (k := a) hlt
      go_wp2_with fail
      refine (HP.out _ s hx1 r1).mono ?_
      rintro e w2 ⟨rfl, hx2⟩
      rcases Bool.eq_false_or_eq_true (p s) with hb | hb
      · go_wp2
        go_ret
        refine ⟨⟨a, rfl, hide (.inr ⟨a, rfl, hlt, hlo.out, fun t ht => ?_⟩)⟩, hx1.trans' hx2⟩
        rw [hs.out] at ht
        obtain rfl := Option.some.inj ht
        exact hb
      · go_wp2
        go_roundw
        case rel =>
          refine ⟨a + 1, by omega, by go_num, hide fun m t hm ht => ?_, hx1.trans' hx2⟩
          by_cases hma : m < a
          · exact hlo.out m t hma ht
          · obtain rfl : m = a := by omega
            rw [hs.out] at ht
            obtain rfl := Option.some.inj ht
            exact hb
        case measure => simp [intOf]; omega
    · go_wp2
      go_ret
      refine ⟨⟨-1, rfl, hide (.inl ⟨rfl, fun s hs => ?_⟩)⟩, hx1⟩
      obtain ⟨m, hm⟩ := List.mem_iff_getElem?.1 hs
      have hml := (List.getElem?_eq_some_iff.1 hm).1
      exact hlo.out m s (by omega) hm
set_option maxHeartbeats 3200000 in
theorem delDn_b (p : Dn → Bool) (c0 c1 : Value) (x : Value) (l : List Dn) (w0 w : World) (hl : l.length ≤ 100000) (hx : Own 68 dnE w0 w noneAt x l) (hx0 : Ext w0 w)
    (hp : ∀ W (s : Dn), Ext w0 W → U64 s.seq → Calls Tryz.prog 63 #[.agg #[.int .u64 s.seq, .int .i64 s.an.err, str s.an.text], c0, c1] W fun e W' => e = .returned (.bool (p s)) ∧ Ext W W') :
    Calls Tryz.prog 62 #[x, .func (.func 63) #[] #[c0, c1]] w fun e w' => RetOwn 68 dnE w0 w' e (l.filter fun a => !p a) := by
  have HI := hide (idxDn_b p c0 c1 x l w hl hx.sl fun W s hW hs => hp W s (hx0.trans' hW) hs)
  have HP := hide hp
  clear hp
  obtain ⟨i0, hi0, hz0, hz1, hz2⟩ := info_parts elt_dn.info
  replace hz1 : i0.size = 3 := hz1
  by_cases hall : ∀ a ∈ l, p a = false
  · have hf : l.filter (fun a => !p a) = l := List.filter_eq_self.2 fun a ha => by rw [hall a ha]; rfl
    rw [hf]
    obtain ⟨A, cap, rfl, k1, k2⟩ := hx.form
    have HA := hide hall
    clear hall hf
    go_enter Tryz.func62, Tryz.ntmps62
    go_wp2_with fail
    refine HI.out.mono ?_
    rintro e w1 ⟨⟨r, rfl, hr⟩, hx1⟩
    have hr1 : r = -1 := by
      rcases hr.out with h | ⟨n, rfl, hn, _, h⟩
      · exact h.1
      · have h1 := h _ (List.getElem?_eq_getElem hn)
        rw [HA.out _ (List.getElem_mem hn)] at h1; cases h1
    subst hr1
    go_wp2
    go_ret
    exact RetOwn.mk (hx.ext hx1) (hx0.trans' hx1)
  · have hpos : 0 < l.length := by
      rcases Nat.eq_zero_or_pos l.length with h | h
      · exact absurd (fun a ha => by rw [List.eq_nil_of_length_eq_zero h] at ha; cases ha) hall
      · exact h
    obtain ⟨g, cap, cur, css, rfl, hg, hb, hc, hm, hs0, ht, he, -⟩ := hx.open_ hpos
    have hm' := hm
    unfold maxLen at hm'
    have HN := hide hall
    clear hall
    have hcl : css.length = l.length := he.1
    replace hs0 : cur.size = cap * 3 := hs0
    replace ht : cur.toList.take (l.length * 3) = css.flatten := ht
    have HC := hide (And.intro hcl (And.intro hs0 ht))
    have hsl0 := hx.sl
    have HG : Hid (w.heap[g]? = some (.cells cur 68 (0, 0))) := hide hg
    clear hcl hs0 ht hg
    go_enter Tryz.func62, Tryz.ntmps62
    go_wp2_with fail
    refine HI.out.mono ?_
    rintro e w1 ⟨⟨r, rfl, hr⟩, hx1⟩
    obtain ⟨n, hn, hnl, hn1, hn2⟩ : ∃ n : Nat, r = n ∧ n < l.length ∧ (∀ m a, m < n → l[m]? = some a → p a = false) ∧ ∀ a, l[n]? = some a → p a = true := by
      rcases hr.out with h | h
      · exact absurd h.2 HN.out
      · exact h
    subst hn
    have hne : ((n : Int) == -1) = false := by first | (simp; done) | (simp; omega)
    obtain ⟨q1, q2⟩ := keepC_first p css l HC.out.1 n hnl hn1 hn2
    have hstart : Hid (∃ cur' : Array Value, w1.heap[g]? = some (.cells cur' 68 (0, 0)) ∧ cur'.size = cap * 3 ∧ cur'.toList.take (n * 3) = ((keepC p css l (n + 1)).map (·.1)).flatten ∧ (keepC p css l (n + 1)).length = n ∧ cur'.toList.drop ((n + 1) * 3) = cur.toList.drop ((n + 1) * 3)) := by
      refine hide ⟨cur, (hx1.block g (Blk.lt (cs := cur) (t := 68) HG.out)).trans HG.out, HC.out.2.1, ?_, q1, rfl⟩
      rw [q2, ← flat_take css 3 n he.lens, ← HC.out.2.2, List.take_take, Nat.min_eq_left (Nat.mul_le_mul_right _ (by omega))]
    clear hr hn1 hn2 q1 q2
    go_wp2
    go_loopw [5, 6] (fun i j wr => ∃ a b : Nat, a < b ∧ b ≤ l.length ∧ i = .int .i64 a ∧ j = .int .i64 b ∧ Hid (∃ cur' : Array Value, wr.heap[g]? = some (.cells cur' 68 (0, 0)) ∧ cur'.size = cap * 3 ∧ cur'.toList.take (a * 3) = ((keepC p css l b).map (·.1)).flatten ∧ (keepC p css l b).length = a ∧ cur'.toList.drop (b * 3) = cur.toList.drop (b * 3)) ∧ Chg [g] w wr) (fun _ j _ => (l.length - intOf j).toNat)
    case atStart =>
      refine ⟨n, n + 1, Nat.lt_succ_self n, hnl, rfl, ?_, hstart, hx1.chg _⟩
      first | rfl | go_num
    case round =>
      obtain ⟨a, b, hab, hbl, rfl, rfl, hst, hcg⟩ := hrel
      have hx0r : Ext w0 wr := hx0.then_ hcg (by simpa using hb)
      by_cases hlt : b < l.length
      · obtain ⟨cur', j1, j2, j3, j4, j5⟩ := hst.out
        have hkeep : ∀ j, b * 3 ≤ j → wr.cell? ⟨g, j, none⟩ = w.cell? ⟨g, j, none⟩ := by
          intro j hj
          rw [cell_of_row wr g j cur' _ _ j1, cell_of_row w g j cur _ _ HG.out, ← Array.getElem?_toList, ← Array.getElem?_toList]
          have e := congrArg (fun z => z[j - b * 3]?) j5
          simp only [List.getElem?_drop] at e
          rw [show b * 3 + (j - b * 3) = j by omega] at e
          exact e
        obtain ⟨ad2, s, hada, hs, hbk, p0, p1, p2, r1, r2, r3⟩ := dn_at hsl0 (k := b) hlt
        obtain rfl := Option.some.inj hada
        simp only [Addr.add_lit, Nat.zero_add] at p0 p1 p2
        have hcb : css[b]? = some (css[b]'(by rw [HC.out.1]; exact hlt)) := List.getElem?_eq_getElem _
        have hrepb := he.2 b _ _ hcb hs.out
        have hcsb : css[b]'(by rw [HC.out.1]; exact hlt) = [Value.int .u64 s.seq, .int .i64 s.an.err, str s.an.text] := (dn_rep.1 hrepb).1
        rw [hcsb] at hcb
        have HCB := hide hcb
        rw [← hkeep _ (by omega)] at p0
        rw [← hkeep _ (by omega)] at p1
        rw [← hkeep _ (by omega)] at p2
        clear hkeep hcb hrepb hcsb
        have HJ := hide (And.intro j1 (And.intro j2 (And.intro j3 (And.intro j4 j5))))
        clear j1 j2 j3 j4 j5
        obtain ⟨gv, hgv⟩ : ∃ gv, wr.heap.size = gv := ⟨_, rfl⟩
        have hV := Blk.new wr 68 ([Value.int .u64 s.seq, .int .i64 s.an.err, str s.an.text]).toArray
        rw [hgv] at hV
        have hxv : Ext w0 (wr.alloc (.cells ([Value.int .u64 s.seq, .int .i64 s.an.err, str s.an.text]).toArray 68)) := hx0r.alloc' _
        go_wp2_with fail
        refine (HP.out _ s hxv r1).mono ?_
        rintro e w2 ⟨rfl, hx2⟩
        have hV2 := hV.ext hx2
        have y0 := (hV2.cell 0).trans rfl
        have y1 := (hV2.cell 1).trans rfl
        have y2 := (hV2.cell 2).trans rfl
        have hB2 : Blk w2 g 68 cur' := (Blk.alloc (w := wr) (cs := cur') (t := 68) HJ.out.1 (.cells ([Value.int .u64 s.seq, .int .i64 s.an.err, str s.an.text]).toArray 68)).ext hx2
        have hcg2 : Chg [g] w w2 := (hcg.alloc _).trans (hx2.chg _)
        rcases Bool.eq_false_or_eq_true (p s) with hb | hb
        · have HB := hide hb
          go_wp2
          go_roundw
          case rel =>
            refine ⟨a, b + 1, by omega, hlt, rfl, by first | rfl | go_num, hide ⟨cur', hB2, HJ.out.2.1, ?_, ?_, ?_⟩, hcg2⟩
            · rw [keepC_succ p css l b _ _ HCB.out hs.out, HB.out]; simpa using HJ.out.2.2.1
            · rw [keepC_succ p css l b _ _ HCB.out hs.out, HB.out]; simpa using HJ.out.2.2.2.1
            · have e5 := congrArg (List.drop 3) HJ.out.2.2.2.2
              rw [List.drop_drop, List.drop_drop] at e5
              rw [Nat.succ_mul]; exact e5
          case measure => simp [intOf]; omega
        · have HB := hide hb
          have hsz : a * 3 + 3 ≤ cur'.size := by rw [HJ.out.2.1]; omega
          obtain ⟨u0, u1, u2, z0, z1, z2, f0, f1, f2⟩ := hB2.has3 (a * 3) hsz
          go_wp2
          go_roundw
          case rel =>
            have hB3 := hB2.st3 (a * 3) (.int .u64 s.seq) (.int .i64 s.an.err) (str s.an.text)
            have hcg3 : Chg [g] w _ := hcg2.st3 (g := g) (by simp) (a * 3) (.int .u64 s.seq) (.int .i64 s.an.err) (str s.an.text)
            have hlen : (a * 3) + 3 ≤ cur'.toList.length := by rw [Array.length_toList]; exact hsz
            refine ⟨a + 1, b + 1, by omega, hlt, by first | rfl | go_num, by first | rfl | go_num, hide ⟨_, hB3, by simp only [Array.size_setIfInBounds]; exact HJ.out.2.1, ?_, ?_, ?_⟩, hcg3⟩
            · rw [keepC_succ p css l b _ _ HCB.out hs.out, HB.out]
              simp only [Array.toList_setIfInBounds]
              rw [set3 _ _ (.int .u64 s.seq) (.int .i64 s.an.err) (str s.an.text) hlen, HJ.out.2.2.1, Nat.succ_mul]
              have hkl : (((keepC p css l b).map (·.1)).flatten).length = a * 3 := by
                have := congrArg List.length HJ.out.2.2.1
                rw [List.length_take, Nat.min_eq_left (by omega)] at this
                exact this.symm
              rw [List.take_append_of_le_length (by rw [List.length_append, hkl]; simp)]
              rw [List.take_of_length_le (by rw [List.length_append, hkl]; simp)]
              simp
            · rw [keepC_succ p css l b _ _ HCB.out hs.out, HB.out]; simpa using HJ.out.2.2.2.1
            · simp only [Array.toList_setIfInBounds]
              rw [set3 _ _ (.int .u64 s.seq) (.int .i64 s.an.err) (str s.an.text) hlen]
              have e5 := congrArg (List.drop 3) HJ.out.2.2.2.2
              rw [List.drop_drop, List.drop_drop] at e5
              rw [Nat.succ_mul, ← e5]
              rw [drop_past _ _ _ (b * 3 - a * 3) (by simp only [List.length_append, List.length_take, List.length_cons, List.length_nil]; omega), List.drop_drop]
              congr 1; omega
          case measure => simp [intOf]; omega
      · obtain rfl : b = l.length := by omega
        obtain ⟨cur', j1, j2, j3, j4, j5⟩ := hst.out
        have hzv : ∀ w, (zeroValue 68).run Tryz.prog w = .ok (.agg #[.int .u64 0, .int .i64 0, .string ByteArray.empty]) w := fun w => by simp [zeroValue, typeInfo, hi0, hz0]
        have hsl1 := fun W => run_sl_l (P := Tryz.prog) (A := some ⟨g, 0, none⟩) (n := l.length) (c := cap) (lo := (a : Int)) (kl := .i64) Tryz.underlying54 hi0 hz1 a rfl (by omega) W
        have hsl2 := fun W => run_sl_h (P := Tryz.prog) (A := some ⟨g, 0, none⟩) (n := l.length) (c := cap) (hi := (a : Int)) (kh := .i64) Tryz.underlying54 hi0 hz1 a rfl (by omega) W
        have hcl : ∀ ty, (Builtin.clear_ #[54] ty #[.slice (cutA 3 (some ⟨g, 0, none⟩) cap a) (l.length - a) (cap - a)]).run Tryz.prog wr = .ok (.tuple #[]) (wr.setRow g (cur'.toList.take (a * 3) ++ (Builtin.zeroCells (Value.cells (.agg #[.int .u64 0, .int .i64 0, .string ByteArray.empty])) (l.length - a)).toList ++ cur'.toList.drop (a * 3 + (Builtin.zeroCells (Value.cells (.agg #[.int .u64 0, .int .i64 0, .string ByteArray.empty])) (l.length - a)).toList.length)).toArray) := by
          intro ty
          rw [cutA_own (by omega)]
          exact run_clearK (P := Tryz.prog) 54 68 ty _ Tryz.underlying54 hzv g (a * 3) (l.length - a) (cap - a) cur' 68 (by omega) j1 (by rw [j2]; show a * 3 + (l.length - a) * 3 ≤ cap * 3; omega) (zeros_one _ _ (by decide))
        have hOwn : ∀ W', W' = wr.setRow g (cur'.toList.take (a * 3) ++ (Builtin.zeroCells (Value.cells (.agg #[.int .u64 0, .int .i64 0, .string ByteArray.empty])) (l.length - a)).toList ++ cur'.toList.drop (a * 3 + (Builtin.zeroCells (Value.cells (.agg #[.int .u64 0, .int .i64 0, .string ByteArray.empty])) (l.length - a)).toList.length)).toArray → RetOwn 68 dnE w0 W' (.returned (.slice (some ⟨g, 0, none⟩) a cap)) (l.filter fun a => !p a) := by
          rintro W' rfl
          have hcg' : Chg [g] w (wr.setRow g (cur'.toList.take (a * 3) ++ (Builtin.zeroCells (Value.cells (.agg #[.int .u64 0, .int .i64 0, .string ByteArray.empty])) (l.length - a)).toList ++ cur'.toList.drop (a * 3 + (Builtin.zeroCells (Value.cells (.agg #[.int .u64 0, .int .i64 0, .string ByteArray.empty])) (l.length - a)).toList.length)).toArray) := hcg.trans (setRow_chg _)
          have hz : (Builtin.zeroCells (Value.cells (.agg #[.int .u64 0, .int .i64 0, .string ByteArray.empty])) (l.length - a)).toList.length = (l.length - a) * 3 := by rw [Array.length_toList, size_zeroCells]; rfl
          have hall' := keepC_all p css l HC.out.1
          have hfl : (l.filter fun a => !p a).length = a := by rw [← hall', List.length_map]; exact j4
          have hct : cur'.toList.length = cap * 3 := by rw [Array.length_toList]; exact j2
          refine ⟨_, some ⟨g, 0, none⟩, cap, hide rfl, by rw [hfl], Own.mk _ ((keepC p css l l.length).map (·.1)) (setRow_heap wr g cur' _ _ _ j1) hb (by rw [hfl]; omega) hm ?_ ?_ ?_ (fun h => h), hx0.then_ hcg' (by simpa using hb)⟩
          · simp only [List.size_toArray, List.length_append, List.length_take, List.length_drop, hz, hct]
            show _ = cap * 3
            omega
          · rw [hfl, ← j3]
            show List.take (a * 3) (List.take (a * 3) cur'.toList ++ _ ++ _) = _
            rw [List.append_assoc, List.take_append_of_le_length (by rw [List.length_take, hct]; omega), List.take_take, Nat.min_self]
          · rw [← hall']
            exact ((keepC_each he l.length).mono (fun k _ hk => hk)).chg hcg' (fun k hk _ => .inr (by simpa using hk))
        have HO := hide hOwn
        have HL := hide hcl
        clear hOwn hcl j1 j2 j3 j4 j5 hzv
        go_wp2_with (with_reducible show wpList _ _ _ (Oper.mk none (Op.call _) _ _ _ _ :: _) _ _; refine wpList_clear_run rfl _ _ rfl _ rfl (HL.out _) ?_)
        go_ret
        exact HO.out _ (by simp [Value.cells])
end Go.Proofs.YtamimdlaclglkaaGreat
namespace Go.Proofs.YtamimdlaclglkaaGreat
set_option linter.unusedVariables false
set_option linter.unusedSimpArgs false
set_option linter.unnecessarySimpa false
set_option maxRecDepth 100000
open Go.RowKit
def stale (seq high : Int) : Bool := decide (4 ≤ high) && decide (seq ≤ high - 4)
abbrev ltC (c : Int) (s : Se) : Bool := decide (s.client < c)
abbrev ltQ (c : Int) (s : Dn) : Bool := decide (s.seq < c)
/-- where a client's session stands; is it there? -/
def sat (l : List Se) (c : Int) : Nat × Bool := (cntP (ltC c) l, (l[cntP (ltC c) l]?).any fun s => decide (s.client = c))
def sown (l : List Se) (c : Int) : Se := match l[cntP (ltC c) l]? with
  | some s => if s.client = c then s else ⟨c, 0, []⟩
  | none => ⟨c, 0, []⟩
def kept (d : List Dn) (q : Int) : Option An := (d.find? fun x => decide (x.seq = q)).map (·.an)
def ask (s : St) (client seq : Int) : An × Bool :=
  if client < 0 ∨ 4 ≤ client ∨ seq = 0 then (⟨1, []⟩, true)
  else match kept (sown s.sess client).done seq with
    | some a => (a, true)
    | none => if stale seq (sown s.sess client).high = true then (⟨14, []⟩, true) else (⟨0, []⟩, false)
def swith (l : List Se) (x : Se) : List Se := if (sat l x.client).2 = true then l.set (sat l x.client).1 x else l.take (sat l x.client).1 ++ x :: l.drop (sat l x.client).1
def dput (d : List Dn) (x : Dn) : List Dn := d.take (cntP (ltQ x.seq) d) ++ x :: d.drop (cntP (ltQ x.seq) d)
def skeep (own : Se) (seq : Int) (a : An) : Se := ⟨own.client, max own.high seq, dput (own.done.filter fun d => !(decide (d.seq = seq) || stale d.seq (max own.high seq))) ⟨seq, a⟩⟩
def keep (s : St) (client seq : Int) (a : An) : St := ⟨s.now, s.count, s.links, swith s.sess (skeep (sown s.sess client) seq a)⟩
/-- lists that rise -/
def RiseS (l : List Se) : Prop := l.Pairwise fun a b => a.client < b.client
def RiseD (l : List Dn) : Prop := l.Pairwise fun a b => a.seq < b.seq
theorem pw_at {α : Type} {R : α → α → Prop} {l : List α} (h : l.Pairwise R) {i j : Nat} {a b : α} (hij : i < j) (ha : l[i]? = some a) (hb : l[j]? = some b) : R a b := by
  obtain ⟨h1, rfl⟩ := List.getElem?_eq_some_iff.1 ha
  obtain ⟨h2, rfl⟩ := List.getElem?_eq_some_iff.1 hb
  exact List.pairwise_iff_getElem.1 h i j h1 h2 hij
theorem RiseS.mono {l : List Se} (h : RiseS l) (c : Int) : Mono (ltC c) l := by
  intro i j a b hij ha hb hp
  simp only [decide_eq_true_eq] at hp ⊢
  rcases Nat.lt_or_ge i j with hlt | hge
  · have := pw_at h hlt ha hb; omega
  · obtain rfl : i = j := by omega
    rw [ha] at hb
    obtain rfl := Option.some.inj hb
    exact hp
theorem RiseD.mono {l : List Dn} (h : RiseD l) (c : Int) : Mono (ltQ c) l := by
  intro i j a b hij ha hb hp
  simp only [decide_eq_true_eq] at hp ⊢
  rcases Nat.lt_or_ge i j with hlt | hge
  · have := pw_at h hlt ha hb; omega
  · obtain rfl : i = j := by omega
    rw [ha] at hb
    obtain rfl := Option.some.inj hb
    exact hp
theorem RiseD.filter {l : List Dn} (h : RiseD l) (p : Dn → Bool) : RiseD (l.filter p) := List.Pairwise.filter p h
end Go.Proofs.YtamimdlaclglkaaGreat
namespace Go.Proofs.YtamimdlaclglkaaGreat
set_option linter.unusedVariables false
set_option linter.unusedSimpArgs false
set_option linter.unnecessarySimpa false
set_option maxRecDepth 100000
open Go.RowKit
theorem results_cell2 {P : Program} {fn : Func} {p u : Tmp} {ty : TypeId} (h : fn.results = #[.cell p ty, .tmp u]) (tmps : Array Value) (w : World) (g : Nat) (t : TypeId) (cs : Array Value) (fr : Nat × Nat) (d : TypeDesc)
    (hp : tmps.getD p undef = .pointer (some ⟨g, 0, none⟩)) (hg : w.heap[g]? = some (.cells cs t fr))
    (hu : P.underlying ty = some d) (hd : (match d with | .struct _ | .array _ _ => true | _ => false) = true) (hi : (P.info? ty).map (·.size) = some cs.size) :
    (results fn tmps).run P w = .ok (.tuple #[.agg cs, tmps.getD u undef]) w := by
  rw [results_cell_tmp h, hp]
  simp [asAddr, run_loadVar_row w g t ty cs fr d hg hu hd hi]
end Go.Proofs.YtamimdlaclglkaaGreat
namespace Go.Proofs.YtamimdlaclglkaaGreat
set_option linter.unusedVariables false
set_option linter.unusedSimpArgs false
set_option linter.unnecessarySimpa false
set_option maxRecDepth 100000
open Go.RowKit
/-- what a function returns whose result is a struct -/
def RetAgg {α : Type} (E : Enc α) (X : Avoid) (w w' : World) (e : Ending) (a : α) : Prop := ∃ cs : List Value, e = .returned (.agg cs.toArray) ∧ E.rep w' X cs a ∧ Ext w w'
set_option maxHeartbeats 800000 in
theorem stale_b (q h : Int) (w : World) (hq : U64 q) (hh : U64 h) : Calls Tryz.prog 60 #[.int .u64 q, .int .u64 h] w fun e w' => e = .returned (.bool (stale q h)) ∧ w = w' := by
  by_cases h1 : 4 ≤ h
  · by_cases h2 : q ≤ h - 4
    · have HS : Hid (stale q h = true) := by unfold Hid stale; simp [h1, h2]
      rw [HS.out]
      go_enter Tryz.func60, Tryz.ntmps60
      go_wp2
      go_ret
      exact ⟨rfl, rfl⟩
    · have HS : Hid (stale q h = false) := by unfold Hid stale; simp [h1]; omega
      rw [HS.out]
      go_enter Tryz.func60, Tryz.ntmps60
      go_wp2
      go_ret
      exact ⟨rfl, rfl⟩
  · have HS : Hid (stale q h = false) := by unfold Hid stale; simp [h1]
    rw [HS.out]
    go_enter Tryz.func60, Tryz.ntmps60
    go_wp2
    go_ret
    exact ⟨rfl, rfl⟩
theorem at_b (x : Value) (l : List Se) (c : Int) (w : World) (hl : l.length ≤ 100000) (hx : Enc.Sl seE w noneAt x l) (hc : I64 c) (hm : RiseS l) :
    Calls Tryz.prog 99 #[x, .int .i64 c] w fun e w' => RetAt (sat l c).1 (sat l c).2 w w' e := by
  have H := hide (searchSe_b x l c w hl hx hc (hm.mono c))
  obtain ⟨A, cap, rfl, -, -⟩ := hx.form
  go_enter Tryz.func99, Tryz.ntmps99
  go_wp2_with fail
  refine H.out.mono ?_
  rintro e w1 ⟨rfl, hx1⟩
  go_wp2
  go_ret2
  exact ⟨rfl, hx1⟩
theorem bad_b (k : Int) (w : World) : Calls Tryz.prog 58 #[.int .i64 k] w fun e w' => e = .returned (.tuple #[.agg #[.int .i64 k, str []], .bool true]) ∧ Ext w w' := by
  go_enter Tryz.func58, Tryz.ntmps58
  go_wp2
  refine bodyPost_ret (results_cell2 rfl _ _ w.heap.size 33 #[.int .i64 k, str []] (0, 0) _ rfl (Blk.new w _ _) Tryz.underlying33 rfl (by kernel_rfl)) rfl ?_
  exact ⟨rfl, (Ext.rfl' w).alloc' _⟩
set_option maxHeartbeats 800000 in
theorem find_b (X : Avoid) (x : Value) (l : List Se) (c : Int) (w : World) (hl : l.length ≤ 100000) (hx : Enc.Sl seE w X x l) (hc : I64 c) (hm : RiseS l) :
    Calls Tryz.prog 89 #[x, .int .i64 c] w fun e w' => RetAgg seE X w w' e (sown l c) := by
  have H := hide (fun W h => at_b x l c W hl h hc hm)
  obtain ⟨A, cap, rfl, -, -⟩ := hx.form
  have hB := Blk.new w 56 #[.int .i64 0, .int .u64 0, .slice none 0 0]
  have hx0 := (hx.mono (Y := fun k => X k ∨ k = w.heap.size) fun k hk h => h.elim id fun h => absurd h (by omega)).ext ((Ext.rfl' w).alloc' (.cells #[.int .i64 0, .int .u64 0, .slice none 0 0] 56))
  by_cases his : (sat l c).2 = true
  · have h1 : cntP (ltC c) l < l.length := by
      rcases Nat.lt_or_ge (cntP (ltC c) l) l.length with h | h
      · exact h
      · unfold sat at his; rw [List.getElem?_eq_none h] at his; cases his
    have HW : Hid (∀ s, l[cntP (ltC c) l]? = some s → sown l c = s) := by
      intro s hs
      unfold sown sat at *
      simp only [hs, Option.any_some, decide_eq_true_eq] at his ⊢
      rw [if_pos his]
    obtain ⟨i, hi⟩ : ∃ i, cntP (ltC c) l = i := ⟨_, rfl⟩
    have HI : Hid (sat l c = (i, true)) := by unfold Hid sat at *; rw [← his, hi]
    rw [hi] at h1 HW
    clear his hi
    go_enter Tryz.func89, Tryz.ntmps89
    go_wp2_with fail
    refine (H.out _ (slN hx0)).mono ?_
    rintro e w1 ⟨rfl, hx1⟩
    rw [HI.out]
    obtain ⟨ad, s, v, rfl, hs, hbk, p0, p1, p2, r1, r2, r3⟩ := se_at (hx0.ext hx1) (k := i) h1
    obtain ⟨Av, cv, rfl, -, -⟩ := r3.form
    have hB1 := hB.ext hx1
    have y0 := (hB1.cell 0).trans rfl
    have y1 := (hB1.cell 1).trans rfl
    have y2 := (hB1.cell 2).trans rfl
    have z0 := hB1.frozen 0
    have z1 := hB1.frozen 1
    have z2 := hB1.frozen 2
    go_wp2
    try simp only [Exit.inBlock, Exit.then]
    refine bodyPost_ret (results_cell_row rfl _ _ w.heap.size 56 #[.int .i64 s.client, .int .u64 s.high, .slice Av s.done.length cv] (0, 0) _ rfl (((hB1.set_ 0 _).set_ 1 _).set_ 2 _) Tryz.underlying56 rfl (by kernel_rfl)) rfl ?_
    rw [HW.out s hs.out]
    have hcg : Chg [w.heap.size] w1 (((w1.setCell ⟨w.heap.size, 0, none⟩ (.int .i64 s.client)).setCell ⟨w.heap.size, 1, none⟩ (.int .u64 s.high)).setCell ⟨w.heap.size, 2, none⟩ (.slice Av s.done.length cv)) := (((Chg.refl _ _).set (by simp) _).set (by simp) _).set (by simp) _
    refine ⟨secells s (.slice Av s.done.length cv), rfl, se_rep.2 ⟨_, rfl, r1, r2, ?_⟩, (((Ext.rfl' w).alloc' _).trans' hx1).then_ hcg (by simp)⟩
    exact (r3.chg hcg (fun k hk _ => .inr (by simpa using hk))).mono fun _ _ h => .inl h
  · have HW : Hid (sown l c = ⟨c, 0, []⟩) := by
      unfold Hid sown sat at *
      cases h : l[cntP (ltC c) l]? with
      | none => rfl
      | some s =>
        simp only [h, Option.any_some, decide_eq_true_eq] at his ⊢
        rw [if_neg his]
    obtain ⟨i, hi⟩ : ∃ i, cntP (ltC c) l = i := ⟨_, rfl⟩
    have HI : Hid (sat l c = (i, false)) := by unfold Hid sat at *; rw [hi] at his ⊢; exact Prod.ext rfl (Bool.eq_false_iff.2 his)
    clear his hi
    go_enter Tryz.func89, Tryz.ntmps89
    go_wp2_with fail
    refine (H.out _ (slN hx0)).mono ?_
    rintro e w1 ⟨rfl, hx1⟩
    rw [HI.out]
    have hB1 := hB.ext hx1
    have y0 := (hB1.cell 0).trans rfl
    have y1 := (hB1.cell 1).trans rfl
    have y2 := (hB1.cell 2).trans rfl
    have z0 := hB1.frozen 0
    have z1 := hB1.frozen 1
    have z2 := hB1.frozen 2
    go_wp2
    try simp only [Exit.inBlock, Exit.then]
    refine bodyPost_ret (results_cell_row rfl _ _ w.heap.size 56 #[.int .i64 c, .int .u64 0, .slice none 0 0] (0, 0) _ rfl (((hB1.set_ 0 _).set_ 1 _).set_ 2 _) Tryz.underlying56 rfl (by kernel_rfl)) rfl ?_
    rw [HW.out]
    have hcg : Chg [w.heap.size] w1 (((w1.setCell ⟨w.heap.size, 0, none⟩ (.int .i64 c)).setCell ⟨w.heap.size, 1, none⟩ (.int .u64 0)).setCell ⟨w.heap.size, 2, none⟩ (.slice none 0 0)) := (((Chg.refl _ _).set (by simp) _).set (by simp) _).set (by simp) _
    exact ⟨secells ⟨c, 0, []⟩ (.slice none 0 0), rfl, se_rep.2 ⟨_, rfl, hc, ⟨by show (0 : Int) ≤ 0; omega, by show (0 : Int) ≤ _; omega⟩, Enc.Sl.nil _ _ _⟩, (((Ext.rfl' w).alloc' _).trans' hx1).then_ hcg (by simp)⟩
set_option maxHeartbeats 800000 in
theorem own_b (X : Avoid) (x : Value) (l : List Se) (c : Cm) (w : World) (hl : l.length ≤ 100000) (hx : Enc.Sl seE w X x l) (hc : I64 c.client) (hm : RiseS l) :
    Calls Tryz.prog 59 #[.agg #[x, .int .i64 c.kind, .int .i64 c.client, .int .u64 c.seq, str c.name, str c.url, .int .u64 c.till]] w fun e w' => RetAgg seE X w w' e (sown l c.client) := by
  obtain ⟨A, cap, rfl, -, -⟩ := hx.form
  have H := hide (fun W h => find_b (fun k => X k ∨ k = w.heap.size + 1) (.slice A l.length cap) l c.client W hl h hc hm)
  have hx' := hx.mono (Y := fun k => X k ∨ k = w.heap.size + 1) fun k hk h => h.elim id fun h => absurd h (by omega)
  have hB0 := (Blk.new w 101 #[.slice A l.length cap, .int .i64 c.kind, .int .i64 c.client, .int .u64 c.seq, str c.name, str c.url, .int .u64 c.till])
  go_enter Tryz.func59, Tryz.ntmps59
  go_wp2_with fail
  have hxx : Ext w ((w.alloc (.cells #[.slice A l.length cap, .int .i64 c.kind, .int .i64 c.client, .int .u64 c.seq, str c.name, str c.url, .int .u64 c.till] 101)).alloc (.cells #[.int .i64 0, .int .u64 0, .slice none 0 0] 56)) := ((Ext.rfl' w).alloc' _).alloc' _
  have hR : Blk ((w.alloc (.cells #[.slice A l.length cap, .int .i64 c.kind, .int .i64 c.client, .int .u64 c.seq, str c.name, str c.url, .int .u64 c.till] 101)).alloc (.cells #[.int .i64 0, .int .u64 0, .slice none 0 0] 56)) (w.heap.size + 1) 56 #[.int .i64 0, .int .u64 0, .slice none 0 0] := by
    have := Blk.new (w.alloc (.cells #[.slice A l.length cap, .int .i64 c.kind, .int .i64 c.client, .int .u64 c.seq, str c.name, str c.url, .int .u64 c.till] 101)) 56 #[.int .i64 0, .int .u64 0, .slice none 0 0]
    rwa [show (w.alloc (.cells #[.slice A l.length cap, .int .i64 c.kind, .int .i64 c.client, .int .u64 c.seq, str c.name, str c.url, .int .u64 c.till] 101)).heap.size = w.heap.size + 1 by simp] at this
  refine (H.out _ (hx'.ext hxx)).mono ?_
  rintro e w1 ⟨cs, rfl, hrep, hx1⟩
  obtain ⟨v, rfl, r1, r2, r3⟩ := se_rep.1 hrep
  obtain ⟨s, hs⟩ : ∃ s, sown l c.client = s := ⟨_, rfl⟩
  rw [hs] at hrep r1 r2 r3 ⊢
  have HS := hide hs
  clear hs
  obtain ⟨Av, cv, rfl, -, -⟩ := r3.form
  have hR1 := hR.ext hx1
  have y0 := (hR1.cell 0).trans rfl
  have y1 := (hR1.cell 1).trans rfl
  have y2 := (hR1.cell 2).trans rfl
  have z0 := hR1.frozen 0
  have z1 := hR1.frozen 1
  have z2 := hR1.frozen 2
  go_wp2
  try simp only [Exit.inBlock, Exit.then]
  refine bodyPost_ret (results_cell_row rfl _ _ (w.heap.size + 1) 56 #[.int .i64 s.client, .int .u64 s.high, .slice Av s.done.length cv] (0, 0) _ rfl (((hR1.set_ 0 _).set_ 1 _).set_ 2 _) Tryz.underlying56 rfl (by kernel_rfl)) rfl ?_
  have hcg : Chg [w.heap.size + 1] w1 (((w1.setCell ⟨w.heap.size + 1, 0, none⟩ (.int .i64 s.client)).setCell ⟨w.heap.size + 1, 1, none⟩ (.int .u64 s.high)).setCell ⟨w.heap.size + 1, 2, none⟩ (.slice Av s.done.length cv)) := (((Chg.refl _ _).set (by simp) _).set (by simp) _).set (by simp) _
  rw [HS.out]
  refine ⟨secells s (.slice Av s.done.length cv), rfl, se_rep.2 ⟨_, rfl, r1, r2, ?_⟩, (hxx.trans' hx1).then_ hcg (by simp)⟩
  exact (r3.chg hcg (fun k hk _ => .inr (by simpa using hk))).mono fun _ _ h => .inl h
end Go.Proofs.YtamimdlaclglkaaGreat
namespace Go.Proofs.YtamimdlaclglkaaGreat
set_option linter.unusedVariables false
set_option linter.unusedSimpArgs false
set_option linter.unnecessarySimpa false
set_option maxRecDepth 100000
open Go.RowKit
structure Cm.wide (c : Cm) : Prop where
  k0 : -9223372036854775808 ≤ c.kind
  k1 : c.kind ≤ 9223372036854775807
  c0 : -9223372036854775808 ≤ c.client
  c1 : c.client ≤ 9223372036854775807
  s0 : 0 ≤ c.seq
  s1 : c.seq ≤ 18446744073709551615
  n1 : c.name.length ≤ maxLen
  u1 : c.url.length ≤ maxLen
  t0 : 0 ≤ c.till
  t1 : c.till ≤ 18446744073709551615
def cmE : Enc Cm := Enc.map (.pair .i64 (.pair .i64 (.pair .u64 (.pair .text (.pair .text (.pair .u64 .unit)))))) fun c => (c.kind, c.client, c.seq, c.name, c.url, c.till, ())
theorem cmE_rep {w : World} {X : Avoid} {cs : Array Value} {c : Cm} (h : cmE.rep w X cs.toList c) : cs = ccells c ∧ c.wide := by
  obtain ⟨c1, r1, e1, ⟨rfl, a1⟩, c2, r2, rfl, ⟨rfl, a2⟩, c3, r3, rfl, ⟨rfl, a3⟩, c4, r4, rfl, ⟨rfl, a4⟩, c5, r5, rfl, ⟨rfl, a5⟩, c6, r6, rfl, ⟨rfl, a6⟩, rfl⟩ := h
  refine ⟨?_, a1.1, a1.2, a2.1, a2.2, a3.1, a3.2, a4, a5, a6.1, a6.2⟩
  cases cs
  simp at e1
  subst e1
  rfl
end Go.Proofs.YtamimdlaclglkaaGreat
