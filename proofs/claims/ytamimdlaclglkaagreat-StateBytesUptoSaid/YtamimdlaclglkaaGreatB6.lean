/- A part of the proof of 'StateBytes'. -/
import Derived.Test.YtamimdlaclglkaaGreatB5
import Derived.Test.YtamimdlaclglkaaGreatB3
import Derived.Laws.CopyRow
import Derived.Lib.AppendZerosOnto
import Derived.Lib.Overlaps
namespace Go.Proofs.YtamimdlaclglkaaGreat
set_option linter.unusedVariables false
set_option linter.unusedSimpArgs false
set_option linter.unnecessarySimpa false
set_option maxRecDepth 100000
open Go.RowKit
/-- how many stand below -/
def cntP {α : Type} (p : α → Bool) (l : List α) : Nat := (l.takeWhile p).length
theorem cntP_le {α : Type} (p : α → Bool) (l : List α) : cntP p l ≤ l.length := (List.takeWhile_sublist p).length_le
theorem cntP_at {α : Type} (p : α → Bool) : ∀ (l : List α) (i : Nat), i ≤ l.length → (∀ m a, m < i → l[m]? = some a → p a = true) → (∀ m a, i ≤ m → l[m]? = some a → p a = false) → cntP p l = i
  | [], i, hi, _, _ => by simp [cntP] at *; omega
  | a :: l, 0, hi, _, h2 => by simp [cntP, h2 0 a (Nat.le_refl _) rfl]
  | a :: l, i + 1, hi, h1, h2 => by
    have ih := cntP_at p l i (by simpa using hi) (fun m b hm hb => h1 (m + 1) b (by omega) (by simpa using hb)) (fun m b hm hb => h2 (m + 1) b (by omega) (by simpa using hb))
    unfold cntP at *
    rw [List.takeWhile_cons, if_pos (h1 0 a (by omega) rfl), List.length_cons, ih]
/-- once not below, never below -/
def Mono {α : Type} (p : α → Bool) (l : List α) : Prop := ∀ (i j : Nat) a b, i ≤ j → l[i]? = some a → l[j]? = some b → p b = true → p a = true
set_option maxHeartbeats 800000 in
theorem cmpInt_b (a b : Int) (w : World) (ha : I64 a) (hb : I64 b) :
    Calls Tryz.prog 122 #[.int .i64 a, .int .i64 b] w fun e w' => (∃ r : Int, e = .returned (.int .i64 r) ∧ ((a < b ∧ r = -1) ∨ (a = b ∧ r = 0) ∨ (b < a ∧ r = 1))) ∧ w = w' := by
  have hn : ∀ (x : Int) (w : World), Calls Tryz.prog 133 #[.int .i64 x] w fun e w' => e = .returned (.bool false) ∧ w = w' := by
    intro x w
    go_enter Tryz.func133, Tryz.ntmps133
    go_wp2
    go_ret
    exact ⟨rfl, rfl⟩
  have HN := hide hn
  clear hn
  rcases Int.lt_trichotomy a b with h | h | h
  · go_enter Tryz.func122, Tryz.ntmps122
    go_wp2_with (go_at_call 133; refine (HN.out _ _).mono ?_; rintro e w1 ⟨rfl, rfl⟩)
    go_ret
    exact ⟨⟨-1, rfl, .inl ⟨h, rfl⟩⟩, rfl⟩
  · have h1 : ¬ a < b := by omega
    have h2 : ¬ b < a := by omega
    go_enter Tryz.func122, Tryz.ntmps122
    go_wp2_with (go_at_call 133; refine (HN.out _ _).mono ?_; rintro e w1 ⟨rfl, rfl⟩)
    go_ret
    exact ⟨⟨0, rfl, .inr (.inl ⟨h, rfl⟩)⟩, rfl⟩
  · have h1 : ¬ a < b := by omega
    go_enter Tryz.func122, Tryz.ntmps122
    go_wp2_with (go_at_call 133; refine (HN.out _ _).mono ?_; rintro e w1 ⟨rfl, rfl⟩)
    go_ret
    exact ⟨⟨1, rfl, .inr (.inr ⟨h, rfl⟩)⟩, rfl⟩
/-- what a comparison with a target says -/
def RetCmp (lt eq : Bool) (w w' : World) (e : Ending) : Prop := ∃ r : Int, e = .returned (.int .i64 r) ∧ Hid ((r < 0 ↔ lt = true) ∧ (r = 0 ↔ eq = true)) ∧ Ext w w'
theorem cmpSe_b (s : Se) (v : Value) (c : Int) (w : World) (hs : I64 s.client) (hc : I64 c) :
    Calls Tryz.prog 121 #[.agg #[.int .i64 s.client, .int .u64 s.high, v], .int .i64 c] w fun e w' => RetCmp (decide (s.client < c)) (decide (s.client = c)) w w' e := by
  go_enter Tryz.func121, Tryz.ntmps121
  go_wp2_with (go_at_call 122; refine (cmpInt_b _ _ _ hs hc).mono ?_; rintro e w1 ⟨⟨r, rfl, hr⟩, rfl⟩)
  go_ret
  exact ⟨r, rfl, hide (by simp; omega), (Ext.rfl' w).alloc' _⟩
def RetAt (n : Nat) (is : Bool) (w w' : World) (e : Ending) : Prop := e = .returned (.tuple #[.int .i64 n, .bool is]) ∧ Ext w w'
set_option maxHeartbeats 1600000 in
theorem searchSe_b (x : Value) (l : List Se) (c : Int) (w : World) (hl : l.length ≤ 100000) (hx : Enc.Sl seE w noneAt x l) (hc : I64 c) (hm : Mono (fun s : Se => decide (s.client < c)) l) :
    Calls Tryz.prog 120 #[x, .int .i64 c, .func (.func 121) #[] #[]] w fun e w' =>
      RetAt (cntP (fun s : Se => decide (s.client < c)) l) ((l[cntP (fun s : Se => decide (s.client < c)) l]?).any fun s => decide (s.client = c)) w w' e := by
  obtain ⟨A, cap, rfl, k1, k2⟩ := hx.form
  have HM := hide hm
  clear hm
  go_enter Tryz.func120, Tryz.ntmps120
  go_wp2
  go_loopw [9, 10] (fun i j wr => ∃ a b : Nat, a ≤ b ∧ b ≤ l.length ∧ i = .int .i64 a ∧ j = .int .i64 b ∧ Hid ((∀ m s, m < a → l[m]? = some s → decide (s.client < c) = true) ∧ (∀ m s, b ≤ m → l[m]? = some s → decide (s.client < c) = false)) ∧ Ext w wr) (fun i j _ => (intOf j - intOf i).toNat)
  case atStart => exact ⟨0, l.length, Nat.zero_le _, Nat.le_refl _, rfl, rfl, hide ⟨fun m s h => by omega, fun m s h hs => by rw [List.getElem?_eq_none h] at hs; cases hs⟩, Ext.rfl' w⟩
  case round =>
    obtain ⟨a, b, hab, hbl, rfl, rfl, hlo, hx1⟩ := hrel
    by_cases hlt : a < b
    · obtain ⟨h, hh⟩ : ∃ h : Nat, h = (a + b) / 2 := ⟨_, rfl⟩
      have hha : a ≤ h := by omega
      have hhb : h < b := by omega
      have hhe : ((a : Int) + b) / 2 = h := by omega
      clear hh
      obtain ⟨ad, s, v, rfl, hs, hbk, p0, p1, p2, r1, r2, r3⟩ := se_at (hx.ext hx1) (k := h) (by omega)
      go_wp2_with fail
      refine (cmpSe_b s v c _ r1 hc).mono ?_
      rintro e w2 ⟨r, rfl, hr, hx2⟩
      by_cases hlt2 : decide (s.client < c) = true
      · have hr2 : r < 0 := hr.out.1.2 hlt2
        go_wp2
        go_roundw
        case rel =>
          refine ⟨h + 1, b, by omega, hbl, by go_num, rfl, hide ⟨fun m t hm ht => ?_, hlo.out.2⟩, hx1.trans' hx2⟩
          exact HM.out m h t s (by omega) ht hs.out hlt2
        case measure => simp [intOf]; omega
      · have hr2 : ¬ r < 0 := fun h => hlt2 (hr.out.1.1 h)
        go_wp2
        go_roundw
        case rel =>
          refine ⟨a, h, by omega, by omega, rfl, rfl, hide ⟨hlo.out.1, fun m t hm ht => ?_⟩, hx1.trans' hx2⟩
          rcases Bool.eq_false_or_eq_true (decide (t.client < c)) with h1 | h1
          · exact absurd (HM.out h m s t hm hs.out ht h1) hlt2
          · exact h1
        case measure => simp [intOf]; omega
    · obtain rfl : a = b := by omega
      have hcn : cntP (fun s : Se => decide (s.client < c)) l = a := cntP_at _ l a hbl hlo.out.1 hlo.out.2
      have HC := hide hcn
      clear hcn
      by_cases hal : a < l.length
      · obtain ⟨ad, s, v, rfl, hs, hbk, p0, p1, p2, r1, r2, r3⟩ := se_at (hx.ext hx1) (k := a) hal
        go_wp2_with fail
        refine (cmpSe_b s v c _ r1 hc).mono ?_
        rintro e w2 ⟨r, rfl, hr, hx2⟩
        by_cases heq : decide (s.client = c) = true
        · have hr2 : r = 0 := hr.out.2.2 heq
          subst hr2
          go_wp2
          go_ret2
          refine ⟨?_, hx1.trans' hx2⟩
          rw [HC.out, hs.out]
          show Ending.returned (.tuple #[.int .i64 (a : Nat), .bool true]) = Ending.returned (.tuple #[.int .i64 (a : Nat), .bool (decide (s.client = c))])
          rw [show (decide (s.client = c)) = true from heq]
        · have hr2 : (r == 0) = false := by
            simp only [beq_eq_false_iff_ne, ne_eq]
            intro h; exact heq (hr.out.2.1 h)
          go_wp2
          go_ret2
          refine ⟨?_, hx1.trans' hx2⟩
          rw [HC.out, hs.out]
          show Ending.returned (.tuple #[.int .i64 (a : Nat), .bool false]) = Ending.returned (.tuple #[.int .i64 (a : Nat), .bool (decide (s.client = c))])
          rw [show (decide (s.client = c)) = false from Bool.eq_false_iff.2 heq]
      · have hln : l[a]? = none := List.getElem?_eq_none (by omega)
        have HL := hide hln
        clear hln
        go_wp2
        go_ret2
        refine ⟨?_, hx1⟩
        rw [HC.out, HL.out]
        rfl
theorem cmpDn_b (s : Dn) (c : Int) (w : World) (hs : U64 s.seq) (hc : U64 c) :
    Calls Tryz.prog 65 #[.agg #[.int .u64 s.seq, .int .i64 s.an.err, str s.an.text], .int .u64 c] w fun e w' => RetCmp (decide (s.seq < c)) false w w' e := by
  by_cases h : s.seq < c
  · go_enter Tryz.func65, Tryz.ntmps65
    go_wp2
    go_ret
    exact ⟨-1, rfl, hide (by simp; omega), (Ext.rfl' w).alloc' _⟩
  · go_enter Tryz.func65, Tryz.ntmps65
    go_wp2
    go_ret
    exact ⟨1, rfl, hide (by simp; omega), (Ext.rfl' w).alloc' _⟩
set_option maxHeartbeats 1600000 in
theorem searchDn_b (x : Value) (l : List Dn) (c : Int) (w : World) (hl : l.length ≤ 100000) (hx : Enc.Sl dnE w noneAt x l) (hc : U64 c) (hm : Mono (fun s : Dn => decide (s.seq < c)) l) :
    Calls Tryz.prog 64 #[x, .int .u64 c, .func (.func 65) #[] #[]] w fun e w' =>
      RetAt (cntP (fun s : Dn => decide (s.seq < c)) l) ((l[cntP (fun s : Dn => decide (s.seq < c)) l]?).any fun s => false) w w' e := by
  obtain ⟨A, cap, rfl, k1, k2⟩ := hx.form
  have HM := hide hm
  clear hm
  go_enter Tryz.func64, Tryz.ntmps64
  go_wp2
  go_loopw [9, 10] (fun i j wr => ∃ a b : Nat, a ≤ b ∧ b ≤ l.length ∧ i = .int .i64 a ∧ j = .int .i64 b ∧ Hid ((∀ m s, m < a → l[m]? = some s → decide (s.seq < c) = true) ∧ (∀ m s, b ≤ m → l[m]? = some s → decide (s.seq < c) = false)) ∧ Ext w wr) (fun i j _ => (intOf j - intOf i).toNat)
  case atStart => exact ⟨0, l.length, Nat.zero_le _, Nat.le_refl _, rfl, rfl, hide ⟨fun m s h => by omega, fun m s h hs => by rw [List.getElem?_eq_none h] at hs; cases hs⟩, Ext.rfl' w⟩
  case round =>
    obtain ⟨a, b, hab, hbl, rfl, rfl, hlo, hx1⟩ := hrel
    by_cases hlt : a < b
    · obtain ⟨h, hh⟩ : ∃ h : Nat, h = (a + b) / 2 := ⟨_, rfl⟩
      have hha : a ≤ h := by omega
      have hhb : h < b := by omega
      have hhe : ((a : Int) + b) / 2 = h := by omega
      clear hh
      obtain ⟨ad, s, rfl, hs, hbk, p0, p1, p2, r1, r2, r3⟩ := dn_at (hx.ext hx1) (k := h) (by omega)
      go_wp2_with fail
      refine (cmpDn_b s c _ r1 hc).mono ?_
      rintro e w2 ⟨r, rfl, hr, hx2⟩
      by_cases hlt2 : decide (s.seq < c) = true
      · have hr2 : r < 0 := hr.out.1.2 hlt2
        go_wp2
        go_roundw
        case rel =>
          refine ⟨h + 1, b, by omega, hbl, by go_num, rfl, hide ⟨fun m t hm ht => ?_, hlo.out.2⟩, hx1.trans' hx2⟩
          exact HM.out m h t s (by omega) ht hs.out hlt2
        case measure => simp [intOf]; omega
      · have hr2 : ¬ r < 0 := fun h => hlt2 (hr.out.1.1 h)
        go_wp2
        go_roundw
        case rel =>
          refine ⟨a, h, by omega, by omega, rfl, rfl, hide ⟨hlo.out.1, fun m t hm ht => ?_⟩, hx1.trans' hx2⟩
          rcases Bool.eq_false_or_eq_true (decide (t.seq < c)) with h1 | h1
          · exact absurd (HM.out h m s t hm hs.out ht h1) hlt2
          · exact h1
        case measure => simp [intOf]; omega
    · obtain rfl : a = b := by omega
      have hcn : cntP (fun s : Dn => decide (s.seq < c)) l = a := cntP_at _ l a hbl hlo.out.1 hlo.out.2
      have HC := hide hcn
      clear hcn
      by_cases hal : a < l.length
      · obtain ⟨ad, s, rfl, hs, hbk, p0, p1, p2, r1, r2, r3⟩ := dn_at (hx.ext hx1) (k := a) hal
        go_wp2_with fail
        refine (cmpDn_b s c _ r1 hc).mono ?_
        rintro e w2 ⟨r, rfl, hr, hx2⟩
        by_cases heq : false = true
        · have hr2 : r = 0 := hr.out.2.2 heq
          subst hr2
          go_wp2
          go_ret2
          refine ⟨?_, hx1.trans' hx2⟩
          rw [HC.out, hs.out]
          show Ending.returned (.tuple #[.int .i64 (a : Nat), .bool true]) = Ending.returned (.tuple #[.int .i64 (a : Nat), .bool (false)])
          rw [show (false) = true from heq]
        · have hr2 : (r == 0) = false := by
            simp only [beq_eq_false_iff_ne, ne_eq]
            intro h; exact heq (hr.out.2.1 h)
          go_wp2
          go_ret2
          refine ⟨?_, hx1.trans' hx2⟩
          rw [HC.out, hs.out]
          show Ending.returned (.tuple #[.int .i64 (a : Nat), .bool false]) = Ending.returned (.tuple #[.int .i64 (a : Nat), .bool (false)])
          rw [show (false) = false from Bool.eq_false_iff.2 heq]
      · have hln : l[a]? = none := List.getElem?_eq_none (by omega)
        have HL := hide hln
        clear hln
        go_wp2
        go_ret2
        refine ⟨?_, hx1⟩
        rw [HC.out, HL.out]
        rfl
end Go.Proofs.YtamimdlaclglkaaGreat
namespace Go.Proofs.YtamimdlaclglkaaGreat
set_option linter.unusedVariables false
set_option linter.unusedSimpArgs false
set_option linter.unnecessarySimpa false
set_option maxRecDepth 100000
open Go.RowKit
/-! plain lists -/
section
variable {α : Type}
theorem flat_len (css : List (List α)) (k : Nat) (h : ∀ c ∈ css, c.length = k) : css.flatten.length = css.length * k := by
  induction css with
  | nil => simp
  | cons c css ih =>
    rw [List.flatten_cons, List.length_append, h c List.mem_cons_self, ih fun d hd => h d (List.mem_cons_of_mem _ hd), List.length_cons, Nat.succ_mul]; omega
theorem flat_take (css : List (List α)) (k i : Nat) (h : ∀ c ∈ css, c.length = k) : css.flatten.take (i * k) = (css.take i).flatten := by
  have e : css.flatten = (css.take i).flatten ++ (css.drop i).flatten := by rw [← List.flatten_append, List.take_append_drop]
  by_cases hi : i ≤ css.length
  · have hl := flat_len (css.take i) k fun c hc => h c (List.mem_of_mem_take hc)
    rw [List.length_take, Nat.min_eq_left hi] at hl
    rw [e, ← hl, List.take_left']
    rfl
  · rw [List.take_of_length_le (l := css) (by omega), List.take_of_length_le]
    rw [flat_len css k h]
    exact Nat.mul_le_mul_right _ (by omega)
theorem flat_drop (css : List (List α)) (k i : Nat) (h : ∀ c ∈ css, c.length = k) : css.flatten.drop (i * k) = (css.drop i).flatten := by
  have e := List.take_append_drop (i * k) css.flatten
  rw [flat_take css k i h] at e
  have e2 : css.flatten = (css.take i).flatten ++ (css.drop i).flatten := by rw [← List.flatten_append, List.take_append_drop]
  exact List.append_cancel_left (e.trans e2)
end
end Go.Proofs.YtamimdlaclglkaaGreat
namespace Go.Proofs.YtamimdlaclglkaaGreat
set_option linter.unusedVariables false
set_option linter.unusedSimpArgs false
set_option linter.unnecessarySimpa false
set_option maxRecDepth 100000
open Go.RowKit
section
variable {P : Program} {w : World}
theorem run_copyK (dT sT ty elem : TypeId) (g o dLen dCap : Nat) (a : Addr) (sLen sCap k : Nat) (cur : Array Value) (t : TypeId) (cs : List Value)
    (hu : P.underlying dT = some (.slice elem)) (hs : (P.info? elem).map (·.size) = some k)
    (hg : w.heap[g]? = some (.cells cur t (0, 0))) (hn : cs.length = Nat.min sLen dLen * k)
    (hsrc : ∀ j v, cs[j]? = some v → w.cell? (a.add j) = some v) (hfit : o + cs.length ≤ cur.size) (h1 : ∀ v ∈ cs, v.oneCell' = true) :
    (Builtin.copy_ #[dT, sT] ty #[.slice (some ⟨g, o, none⟩) dLen dCap, .slice (some a) sLen sCap]).run P w =
      .ok (goInt (Nat.min sLen dLen)) (w.setRow g (cur.toList.take o ++ cs ++ cur.toList.drop (o + cs.length)).toArray) := by
  have hl := run_loadCells_list (P := P) w a cs hsrc
  have hst := run_storeCells_at P g o t cs 0 cur w hg (by simpa using hfit) h1
  cases hq : P.info? elem with
  | none => simp [hq] at hs
  | some i =>
    have hi : i.size = k := by simpa [hq] using hs
    simp [Builtin.copy_, run_underlying hu, Builtin.lenOf, Builtin.firstCells, sizeOf, typeInfo, hq, hi, ← hn, hl, hst]
theorem wpList_copy_run {ops : Array Oper} {rest : List Oper} {o : Oper} {a : Act} {Q : Exit → Act → World → Prop} (hgd : o.guard = none) (s x : Operand) (ts : Array TypeId)
    (ho : o.op = .call { callee := .builtin .copy, args := #[s, x], argTypes := ts }) (u y : Value) (hs : a.eval s = u) (hx : a.eval x = y) {v : Value} {w' : World}
    (hr : (Builtin.copy_ ts o.type #[u, y]).run P w = .ok v w') (h : wpList P ops Q rest (a.put o.dst v) w') : wpList P ops Q (o :: rest) a w :=
  wpList_plain hgd fun _ hK => by
    unfold Oper.wp execOp
    simp only [ho, resolve, invoke, builtin, Sem.run_bind, Sem.run_pure, Result.andThen_ok, List.map_toArray, List.map_cons, List.map_nil, hs, hx, hr]
    exact hK _ _ h
theorem run_clearK (t e ty : TypeId) (z : Value) (ht : P.underlying t = some (.slice e)) (hv : ∀ w, (zeroValue e).run P w = .ok z w) (g o n c : Nat) (cur : Array Value) (tt : TypeId) (hn : 0 < n)
    (hg : w.heap[g]? = some (.cells cur tt (0, 0))) (hfit : o + n * z.cells.size ≤ cur.size) (h1 : ∀ v ∈ (Builtin.zeroCells z.cells n).toList, v.oneCell' = true) :
    (Builtin.clear_ #[t] ty #[.slice (some ⟨g, o, none⟩) n c]).run P w = .ok (.tuple #[]) (w.setRow g (cur.toList.take o ++ (Builtin.zeroCells z.cells n).toList ++ cur.toList.drop (o + (Builtin.zeroCells z.cells n).toList.length)).toArray) := by
  have hl : (Builtin.zeroCells z.cells n).toList.length = n * z.cells.size := by simp [Builtin.zeroCells]
  have hst := run_storeCells_at P g o tt (Builtin.zeroCells z.cells n).toList 0 cur w hg (by rw [hl]; simpa using hfit) h1
  simp only [Nat.add_zero] at hst
  obtain ⟨m, rfl⟩ : ∃ m, n = m + 1 := ⟨n - 1, by omega⟩
  simp [Builtin.clear_, run_underlying ht, hv, hst]
end
theorem cutA_own {k g c lo : Nat} (h : lo < c) : cutA k (some ⟨g, 0, none⟩) c lo = some ⟨g, lo * k, none⟩ := by
  unfold cutA
  rw [if_neg (by omega), Option.map_some]
  unfold Addr.add
  split
  · rename_i h0; rw [h0]
  · simp
/-! plain lists -/
section
variable {α : Type}
/-- what a row holds whose elements from i on were moved up by one and one was laid between -/
theorem ins_flat (css : List (List α)) (k i : Nat) (cur ce : List α) (h : ∀ c ∈ css, c.length = k) (hc : ce.length = k) (hi : i ≤ css.length) (hl : (css.length + 1) * k ≤ cur.length) (ht : cur.take (i * k) = (css.take i).flatten) (cur1 : List α)
    (h1 : cur1 = cur.take ((i + 1) * k) ++ (css.drop i).flatten ++ cur.drop ((i + 1) * k + (css.drop i).flatten.length)) :
    cur1.length = cur.length ∧ (cur1.take (i * k) ++ ce ++ cur1.drop (i * k + ce.length)).take ((css.length + 1) * k) = (css.take i ++ ce :: css.drop i).flatten ∧ (cur1.take (i * k) ++ ce ++ cur1.drop (i * k + ce.length)).length = cur.length := by
  have hd := flat_len (css.drop i) k fun c hc => h c (List.mem_of_mem_drop hc)
  rw [List.length_drop] at hd
  have e0 : (i + 1) * k = i * k + k := Nat.succ_mul _ _
  have e1 : (css.length + 1) * k = css.length * k + k := Nat.succ_mul _ _
  have e2 : css.length * k = i * k + (css.length - i) * k := by rw [← Nat.add_mul]; congr 1; omega
  have l1 : cur1.length = cur.length := by
    rw [h1]; simp only [List.length_append, List.length_take, List.length_drop, hd]; omega
  have t1 : cur1.take (i * k) = (css.take i).flatten := by
    rw [h1, List.append_assoc, List.take_append_of_le_length (by rw [List.length_take]; omega), List.take_take, Nat.min_eq_left (by omega), ht]
  have d1 : cur1.drop (i * k + ce.length) = (css.drop i).flatten ++ cur.drop ((i + 1) * k + (css.drop i).flatten.length) := by
    rw [h1, List.append_assoc, List.drop_append_of_le_length (by rw [List.length_take, hc]; omega)]
    rw [hc, ← e0, List.drop_take, Nat.sub_self]
    simp
  refine ⟨l1, ?_, ?_⟩
  · rw [t1, d1, List.flatten_append, List.flatten_cons, ← List.append_assoc, List.append_assoc (css.take i).flatten]
    have hh : ((css.take i).flatten ++ (ce ++ (css.drop i).flatten)).length = (css.length + 1) * k := by
      rw [List.length_append, List.length_append, flat_len (css.take i) k fun c hc => h c (List.mem_of_mem_take hc), hd, hc, List.length_take, Nat.min_eq_left hi]; omega
    rw [← hh]
    exact List.take_left' rfl
  · simp only [List.length_append, List.length_take, List.length_drop, hc, l1]; omega
end
/-- a slice of new memory, by its block -/
theorem Own.mk {α : Type} {T : TypeId} {E : Enc α} {w0 w : World} {X : Avoid} {g cap : Nat} {l : List α} (cur : Array Value) (css : List (List Value)) (hg : w.heap[g]? = some (.cells cur T (0, 0))) (hb : w0.heap.size ≤ g) (hc : l.length ≤ cap) (hm : cap ≤ maxLen)
    (hs : cur.size = cap * E.size) (ht : cur.toList.take (l.length * E.size) = css.flatten) (he : Enc.Each E w (fun k => X k ∨ k = g) css l) (hX : ¬ X g) : Own T E w0 w X (.slice (some ⟨g, 0, none⟩) l.length cap) l :=
  ⟨css, ⟨he.len, .inr ⟨g, cap, cur, rfl, hb, hg, hc, hm, hs, ht⟩⟩, he.mono fun k _ hk => hk.elim .inl fun h => .inr (Option.some.inj h).symm, fun k hk => by obtain rfl := Option.some.inj hk; exact hX⟩
theorem Own.open_ {α : Type} {T : TypeId} {E : Enc α} {w0 w : World} {X : Avoid} {v : Value} {l : List α} (h : Own T E w0 w X v l) (hn : 0 < l.length) : ∃ g cap cur css, v = .slice (some ⟨g, 0, none⟩) l.length cap ∧ w.heap[g]? = some (.cells cur T (0, 0)) ∧ w0.heap.size ≤ g ∧ l.length ≤ cap ∧ cap ≤ maxLen ∧
    cur.size = cap * E.size ∧ cur.toList.take (l.length * E.size) = css.flatten ∧ Enc.Each E w (fun k => X k ∨ k = g) css l ∧ ¬ X g := by
  obtain ⟨css, ⟨_, h1⟩, h2, h3⟩ := h
  rcases h1 with ⟨_, h0⟩ | ⟨g, cap, cur, rfl, hb, hg, hc, hm, hs, ht⟩
  · omega
  · exact ⟨g, cap, cur, css, rfl, hg, hb, hc, hm, hs, ht, h2.mono fun k _ hk => hk.elim .inl fun h => .inr (by rw [h]; rfl), h3 g rfl⟩
theorem setRow_chg {w : World} {g : Nat} (cs : Array Value) : Chg [g] w (w.setRow g cs) :=
  ⟨rfl, rfl, rfl, by simp, fun k _ hn => setRow_other w g k cs (by simpa using hn)⟩
end Go.Proofs.YtamimdlaclglkaaGreat
