/- A part of the proof of 'StateBytes'. -/
import Derived.Test.YtamimdlaclglkaaGreatB26
import Derived.Test.YtamimdlaclglkaaGreatB16
import Derived.Test.YtamimdlaclglkaaGreatB6
import Derived.Test.YtamimdlaclglkaaGreatB4
import Derived.ArgAppend
import Derived.Deep.RegionLaw
import Derived.Test.YtamimdlaclglkaaGreatB2
import Derived.Test.YtamimdlaclglkaaGreatB10
import Derived.Test.YtamimdlaclglkaaGreatB18
import Derived.RegionTactic
import Derived.Deep.DeepCutAuto
import Derived.Test.YtamimdlaclglkaaGreatB8
import Derived.Test.YtamimdlaclglkaaGreatB13
import Derived.Deep.CutBlock
import Derived.Test.YtamimdlaclglkaaGreatB25
import Derived.Laws.Cover1
namespace Go.Proofs.YtamimdlaclglkaaGreat
set_option linter.unusedVariables false
set_option linter.unusedSimpArgs false
set_option linter.unnecessarySimpa false
set_option maxRecDepth 100000
open Go.RowKit
def ptimes {α : Type} (f : Rdr → α × Rdr) : Nat → Rdr → List α × Rdr
  | 0, s => ([], s)
  | n + 1, s => if s.2 = 0 then ((f s).1 :: (ptimes f n (f s).2).1, (ptimes f n (f s).2).2) else ([], s)
def plink (s : Rdr) : Ln × Rdr :=
  let a := ptext s
  let b := ptext a.2
  let c := pnum 8 b.2
  let d := pnum 1 c.2
  (⟨a.1, b.1, c.1, decide (d.1 = 1)⟩, pform (decide (1 < d.1)) d.2)
def pdone (s : Rdr) : Dn × Rdr :=
  let a := pnum 8 s
  let b := pnum 1 a.2
  let t := ptext (pform (decide (16 < b.1)) b.2)
  (⟨a.1, ⟨b.1, t.1⟩⟩, t.2)
def psess (s : Rdr) : Se × Rdr :=
  let a := pnum 1 s
  let b := pnum 8 a.2
  let n := pnum 1 b.2
  let l := ptimes pdone n.1.toNat n.2
  (⟨a.1, b.1, l.1⟩, l.2)
def risesB {α : Type} (lt : α → α → Bool) : List α → Bool
  | a :: b :: l => lt a b && risesB lt (b :: l)
  | _ => true
def standsB (s : St) : Bool := risesB (fun a b => Op.bytesLess a.name b.name) s.links && risesB (fun a b => decide (a.client < b.client)) s.sess && s.sess.all fun x => risesB (fun a b => decide (a.seq < b.seq)) x.done
def St0 : St := ⟨0, 0, [], []⟩
/-- all that is read -/
def pstate (b : Bytes) : St × Rdr :=
  let a := pnum 8 (b, 0)
  let c := pnum 8 a.2
  let n := pnum 2 c.2
  let l := ptimes plink n.1.toNat n.2
  let m := pnum 2 l.2
  let x := ptimes psess m.1.toNat m.2
  (⟨a.1, c.1, l.1, x.1⟩, x.2)
def ptake (b : Bytes) : St × Int :=
  if (pstate b).2.2 ≠ 0 then (St0, (pstate b).2.2) else if 0 < (pstate b).2.1.length ∨ standsB (pstate b).1 = false then (St0, 2) else ((pstate b).1, 0)
/-- something is done so many times, or till there is an error -/
def titer {σ : Type} (er : σ → Int) (f : σ → σ) : Nat → σ → σ
  | 0, x => x
  | n + 1, x => if er x = 0 then titer er f n (f x) else x
theorem titer_list {α : Type} (f : Rdr → α × Rdr) : ∀ (n : Nat) (l : List α) (s : Rdr), titer (fun y : List α × Rdr => y.2.2) (fun y => (y.1 ++ [(f y.2).1], (f y.2).2)) n (l, s) = (l ++ (ptimes f n s).1, (ptimes f n s).2)
  | 0, l, s => by simp [titer, ptimes]
  | n + 1, l, s => by
    unfold titer ptimes
    by_cases h : s.2 = 0
    · rw [if_pos h, if_pos h, titer_list f n]; simp
    · rw [if_neg h, if_neg h]; simp
theorem plen_form (c : Bool) (s : Rdr) : (pform c s).1 = s.1 := by unfold pform; split <;> rfl
theorem plen_num (n : Nat) (s : Rdr) : (pnum n s).2.1.length ≤ s.1.length := by
  unfold pnum
  split
  · split
    · exact Nat.le_refl _
    · simp
  · exact Nat.le_refl _
theorem pnum_u8 (s : Rdr) : 0 ≤ (pnum 1 s).1 ∧ (pnum 1 s).1 ≤ 255 := by have := pnum_rng 1 s; omega
theorem pnum_u16 (s : Rdr) : 0 ≤ (pnum 2 s).1 ∧ (pnum 2 s).1 ≤ 65535 := by have := pnum_rng 2 s; have e : (256 : Int) ^ 2 = 65536 := rfl; omega
theorem pnum_u64 (s : Rdr) : 0 ≤ (pnum 8 s).1 ∧ (pnum 8 s).1 ≤ 18446744073709551615 := by have := pnum_rng 8 s; have e : (256 : Int) ^ 8 = 18446744073709551616 := rfl; omega
theorem ptext_le (s : Rdr) : (ptext s).1.length ≤ s.1.length ∧ (ptext s).2.1.length ≤ s.1.length := by
  unfold ptext
  split
  · unfold otakeBytes
    split
    · simp
    · simp; omega
  · simp
theorem pform_bigN (n : Nat) (hn : n ≤ 8) (s s' : Rdr) : pform (decide ((18446744073709551615 : Int) < (pnum n s).1)) s' = s' := by
  have h := pnum_rng n s
  have h2 : (256 : Int) ^ n ≤ 18446744073709551616 := by
    have : (256 : Nat) ^ n ≤ 256 ^ 8 := Nat.pow_le_pow_right (by decide) hn
    have e : ((256 ^ n : Nat) : Int) = 256 ^ n := by simp
    omega
  rw [decide_eq_false (by omega), pform_no]
end Go.Proofs.YtamimdlaclglkaaGreat
namespace Go.Proofs.YtamimdlaclglkaaGreat
set_option linter.unusedVariables false
set_option linter.unusedSimpArgs false
set_option linter.unnecessarySimpa false
set_option maxRecDepth 100000
open Go.RowKit
theorem snumF_b (g : Nat) (v : Value) (s : Rdr) (M : List Value) (n : Nat) (w : World) (h : SAt w g v s M) (hn : n ≤ 8) :
    Calls Tryz.prog 39 #[.pointer (some ⟨g, 0, none⟩), .int .i64 n, .int .u64 18446744073709551615] w fun e w' =>
      e = .returned (.int .u64 (pnum n s).1) ∧ STo w w' g v (pnum n s).2 M := by
  refine (snum_b g v s M n 18446744073709551615 w h hn).mono ?_
  rintro e w' ⟨h1, h2⟩
  rw [pform_bigN n hn] at h2
  exact ⟨h1, h2⟩
set_option maxHeartbeats 1600000 in
theorem times1_b {σ : Type} (g F : Nat) (p : Value) (I : Nat → σ → World → Prop) (er : σ → Int) (f : σ → σ) (n : Nat) (x : σ) (w : World) (hI : I n x w) (hcell : Hid (∀ k x W, I k x W → W.cell? ⟨g, 1, none⟩ = some (.int .i64 (er x))))
    (hF : ∀ W, (callFunc F #[p]).run Tryz.prog W = .ok (.enter F #[p]) W) (hstep : Hid (∀ k x W, er x = 0 → I (k + 1) x W → Calls Tryz.prog F #[p] W fun e W' => e = .returned (.tuple #[]) ∧ I k (f x) W')) (hn : n ≤ 65535) :
    Calls Tryz.prog 40 #[.pointer (some ⟨g, 0, none⟩), .int .u64 n, .func (.func F) #[p] #[]] w fun e w' => e = .returned (.tuple #[]) ∧ ∃ k, I k (titer er f n x) w' := by
  go_enter Tryz.func40, Tryz.ntmps40
  go_wp2_with fail
  go_loopw [1] (fun v wr => ∃ (k : Nat) (y : σ), k ≤ 65535 ∧ v = .int .u64 k ∧ I k y wr ∧ Hid (titer er f n x = titer er f k y)) (fun v _ => (intOf v).toNat)
  case atStart => exact ⟨n, x, hn, rfl, hI, hide rfl⟩
  case round =>
    clear hI
    obtain ⟨k, y, hk, rfl, hI, hT⟩ := hrel
    have c1 := hcell.out k y wr hI
    rcases Nat.eq_zero_or_pos k with h0 | h0
    · subst h0
      go_wp2
      go_end0
      exact ⟨rfl, _, by rw [hT.out]; exact hI⟩
    · obtain ⟨m, rfl⟩ : ∃ m, k = m + 1 := ⟨k - 1, by omega⟩
      rcases Bool.eq_false_or_eq_true (er y == 0) with he | he
      · have HT : Hid (titer er f n x = titer er f m (f y)) := hide (by rw [hT.out]; show (if er y = 0 then titer er f m (f y) else y) = _; rw [if_pos (by simpa using he)])
        have HS := hide (hstep.out m y wr (by simpa using he) hI)
        clear hT hI
        go_wp2_with fail
        refine HS.out.mono ?_
        rintro e W2 ⟨rfl, hI2⟩
        go_wp2_with fail
        go_roundw
        case rel => exact ⟨m, f y, by omega, by go_num, hI2, HT⟩
        case measure => simp [intOf]
      · have HT : Hid (titer er f n x = y) := hide (by rw [hT.out]; show (if er y = 0 then titer er f m (f y) else y) = _; rw [if_neg (by simpa using he)])
        go_wp2
        go_end0
        exact ⟨rfl, _, by rw [HT.out]; exact hI⟩
set_option maxHeartbeats 1600000 in
theorem times2_b {σ : Type} (g F : Nat) (p q : Value) (I : Nat → σ → World → Prop) (er : σ → Int) (f : σ → σ) (n : Nat) (x : σ) (w : World) (hI : I n x w) (hcell : Hid (∀ k x W, I k x W → W.cell? ⟨g, 1, none⟩ = some (.int .i64 (er x))))
    (hF : ∀ W, (callFunc F #[p, q]).run Tryz.prog W = .ok (.enter F #[p, q]) W) (hstep : Hid (∀ k x W, er x = 0 → I (k + 1) x W → Calls Tryz.prog F #[p, q] W fun e W' => e = .returned (.tuple #[]) ∧ I k (f x) W')) (hn : n ≤ 65535) :
    Calls Tryz.prog 40 #[.pointer (some ⟨g, 0, none⟩), .int .u64 n, .func (.func F) #[] #[p, q]] w fun e w' => e = .returned (.tuple #[]) ∧ ∃ k, I k (titer er f n x) w' := by
  go_enter Tryz.func40, Tryz.ntmps40
  go_wp2_with fail
  go_loopw [1] (fun v wr => ∃ (k : Nat) (y : σ), k ≤ 65535 ∧ v = .int .u64 k ∧ I k y wr ∧ Hid (titer er f n x = titer er f k y)) (fun v _ => (intOf v).toNat)
  case atStart => exact ⟨n, x, hn, rfl, hI, hide rfl⟩
  case round =>
    clear hI
    obtain ⟨k, y, hk, rfl, hI, hT⟩ := hrel
    have c1 := hcell.out k y wr hI
    rcases Nat.eq_zero_or_pos k with h0 | h0
    · subst h0
      go_wp2
      go_end0
      exact ⟨rfl, _, by rw [hT.out]; exact hI⟩
    · obtain ⟨m, rfl⟩ : ∃ m, k = m + 1 := ⟨k - 1, by omega⟩
      rcases Bool.eq_false_or_eq_true (er y == 0) with he | he
      · have HT : Hid (titer er f n x = titer er f m (f y)) := hide (by rw [hT.out]; show (if er y = 0 then titer er f m (f y) else y) = _; rw [if_pos (by simpa using he)])
        have HS := hide (hstep.out m y wr (by simpa using he) hI)
        clear hT hI
        go_wp2_with fail
        refine HS.out.mono ?_
        rintro e W2 ⟨rfl, hI2⟩
        go_wp2_with fail
        go_roundw
        case rel => exact ⟨m, f y, by omega, by go_num, hI2, HT⟩
        case measure => simp [intOf]
      · have HT : Hid (titer er f n x = y) := hide (by rw [hT.out]; show (if er y = 0 then titer er f m (f y) else y) = _; rw [if_neg (by simpa using he)])
        go_wp2
        go_end0
        exact ⟨rfl, _, by rw [HT.out]; exact hI⟩
end Go.Proofs.YtamimdlaclglkaaGreat
namespace Go.Proofs.YtamimdlaclglkaaGreat
set_option linter.unusedVariables false
set_option linter.unusedSimpArgs false
set_option linter.unnecessarySimpa false
set_option maxRecDepth 100000
open Go.RowKit
section
variable {α : Type} {E : Enc α} {w : World} {X : Avoid} {A : Option Addr} {n c k : Nat} {l : List α}
theorem Sl.front (h : Enc.Sl E w X (.slice A n c) l) (hk : k ≤ l.length) : Enc.Sl E w X (.slice A k c) (l.take k) := by
  obtain ⟨A', c', css, e, h1, h2, h3, h4, h5⟩ := h
  simp only [Value.slice.injEq] at e
  obtain ⟨rfl, rfl, rfl⟩ := e
  have hl : (l.take k).length = k := by rw [List.length_take, Nat.min_eq_left hk]
  refine ⟨A, c, css.take k, by rw [hl], by rw [hl]; omega, h2, ?_, fun ad he h0 => h4 ad he (by rw [hl] at h0; omega), h5.take k⟩
  rw [hl, ← flat_take css E.size k h5.lens]
  exact h3.front hk
theorem Sl.rest (h : Enc.Sl E w X (.slice A n c) l) (hk : k ≤ l.length) : Enc.Sl E w X (.slice (cutA E.size A c k) (l.length - k) (c - k)) (l.drop k) := by
  obtain ⟨A', c', css, e, h1, h2, h3, h4, h5⟩ := h
  simp only [Value.slice.injEq] at e
  obtain ⟨rfl, rfl, rfl⟩ := e
  have hl : (l.drop k).length = l.length - k := List.length_drop
  refine ⟨cutA E.size A c k, c - k, css.drop k, by rw [hl], by rw [hl]; omega, by omega, ?_, fun ad he h0 => ?_, h5.drop k⟩
  · rw [hl, ← flat_drop css E.size k h5.lens]
    exact h3.cutA hk h1
  · rw [hl] at h0
    unfold cutA at he
    split at he
    · exact h4 ad he (by omega)
    · cases A with
      | none => cases he
      | some a =>
        have := Option.some.inj he
        have hb : ad.block = a.block := by
          rw [← this]
          unfold Addr.add
          split <;> rfl
        rw [hb]
        exact h4 a rfl (by omega)
end
end Go.Proofs.YtamimdlaclglkaaGreat
namespace Go.Proofs.YtamimdlaclglkaaGreat
set_option linter.unusedVariables false
set_option linter.unusedSimpArgs false
set_option linter.unnecessarySimpa false
set_option maxRecDepth 100000
open Go.RowKit
/-- a slice of new memory, from off on in its block, that reads as l -/
def OwnO {α : Type} (T : TypeId) (E : Enc α) (w0 w : World) (X : Avoid) (v : Value) (l : List α) : Prop :=
  (∃ A, v = .slice A 0 0 ∧ l = [] ∧ ∀ a, A = some a → w0.heap.size ≤ a.block ∧ a.block < w.heap.size ∧ ¬ X a.block) ∨ ∃ (g off c : Nat) (cur : Array Value) (css : List (List Value)), v = .slice (some ⟨g, off, none⟩) l.length c ∧ w0.heap.size ≤ g ∧ Blk w g T cur ∧ l.length ≤ c ∧ c ≤ maxLen ∧ 0 < c ∧ off + c * E.size ≤ cur.size ∧
    (∀ j u, css.flatten[j]? = some u → cur[off + j]? = some u) ∧ Enc.Each E w (fun k => X k ∨ k = g) css l ∧ ¬ X g
section
variable {α : Type} {T : TypeId} {E : Enc α} {w0 w w' : World} {X Y : Avoid} {v : Value} {l m : List α}
theorem OwnO.form (h : OwnO T E w0 w X v l) : ∃ A c, v = .slice A l.length c ∧ l.length ≤ c ∧ c ≤ maxLen := by
  rcases h with ⟨A, rfl, rfl, hA⟩ | ⟨g, off, c, cur, css, rfl, h1, h2, h3, h4, -⟩
  · exact ⟨A, 0, rfl, Nat.le_refl _, by simp [maxLen]⟩
  · exact ⟨_, c, rfl, h3, h4⟩
theorem OwnO.sl (h : OwnO T E w0 w X v l) : Enc.Sl E w X v l := by
  rcases h with ⟨A, rfl, rfl, hA⟩ | ⟨g, off, c, cur, css, rfl, h1, h2, h3, h4, h0, h5, h6, h7, h8⟩
  · exact ⟨A, 0, [], rfl, Nat.le_refl _, by simp [maxLen], ⟨by simp, fun h => absurd h (by simp)⟩, fun _ _ h => absurd h (by simp), Enc.Each.nil E w X⟩
  · refine ⟨_, c, css, rfl, h3, h4, ⟨h7.len, fun _ => ⟨_, rfl, h2.lt, fun j u hu => ?_⟩⟩, fun ad he _ => ?_, h7.mono fun k _ hk => .inl hk⟩
    · have hadd : (⟨g, off, none⟩ : Addr).add j = ⟨g, off + j, none⟩ := by unfold Addr.add; split <;> simp_all
      rw [hadd, h2.cell]
      exact h6 j u hu
    · rw [← Option.some.inj he]
      exact h8
theorem OwnO.nil (T : TypeId) (E : Enc α) (w0 w : World) (X : Avoid) : OwnO T E w0 w X (.slice none 0 0) [] := .inl ⟨none, rfl, rfl, fun a h => by cases h⟩
theorem OwnO.own (h : OwnO T E w0 w X v l) : ∀ k, v.ownBlock = some k → w0.heap.size ≤ k ∧ k < w.heap.size ∧ ¬ X k := by
  rcases h with ⟨A, rfl, rfl, hA⟩ | ⟨g, off, c, cur, css, rfl, h1, h2, h3, h4, h0, h5, h6, h7, h8⟩
  · intro k hk
    cases A with
    | none => cases hk
    | some a => obtain rfl : a.block = k := Option.some.inj hk; exact hA a rfl
  · intro k hk
    obtain rfl : g = k := Option.some.inj hk
    exact ⟨h1, h2.lt, h8⟩
theorem OwnO.of_own (h : Own T E w0 w X v l) : OwnO T E w0 w X v l := by
  obtain ⟨css, h1, h2, h3⟩ := h
  rcases h1.2 with ⟨rfl, hn⟩ | ⟨g, cap, cur, rfl, hg, hh, hn, hm, hs, ht⟩
  · have : l = [] := List.eq_nil_of_length_eq_zero hn
    subst this
    exact .inl ⟨none, rfl, rfl, fun a h => by cases h⟩
  · rcases Nat.eq_zero_or_pos cap with hc | hc
    · subst hc
      have : l = [] := List.eq_nil_of_length_eq_zero (by omega)
      subst this
      exact .inl ⟨_, rfl, rfl, fun a ha => by obtain rfl := Option.some.inj ha; exact ⟨hg, Blk.lt (t := T) hh, h3 g rfl⟩⟩
    · refine .inr ⟨g, 0, cap, cur, css, rfl, hg, hh, hn, hm, hc, by rw [hs]; omega, fun j u hu => ?_, h2.mono fun k _ hk => hk.elim .inl fun h => .inr (by rw [h]; rfl), h3 g rfl⟩
      rw [← ht, List.getElem?_take] at hu
      split at hu
      · rw [Nat.zero_add, ← Array.getElem?_toList]; exact hu
      · cases hu
theorem OwnO.ext (h : OwnO T E w0 w X v l) (hx : Ext w w') : OwnO T E w0 w' X v l := by
  rcases h with ⟨A, e1, e2, hA⟩ | ⟨g, off, c, cur, css, rfl, h1, h2, h3, h4, h0, h5, h6, h7, h8⟩
  · exact .inl ⟨A, e1, e2, fun a ha => ⟨(hA a ha).1, Nat.lt_of_lt_of_le (hA a ha).2.1 hx.size, (hA a ha).2.2⟩⟩
  · exact .inr ⟨g, off, c, cur, css, rfl, h1, h2.ext hx, h3, h4, h0, h5, h6, h7.ext hx, h8⟩
theorem OwnO.chg {S : List Nat} (h : OwnO T E w0 w X v l) (hc : Chg S w w') (hs : ∀ k, k ∈ S → k < w.heap.size → X k) : OwnO T E w0 w' X v l := by
  rcases h with ⟨A, e1, e2, hA⟩ | ⟨g, off, c, cur, css, rfl, h1, h2, h3, h4, h0, h5, h6, h7, h8⟩
  · exact .inl ⟨A, e1, e2, fun a ha => ⟨(hA a ha).1, Nat.lt_of_lt_of_le (hA a ha).2.1 hc.size, (hA a ha).2.2⟩⟩
  · exact .inr ⟨g, off, c, cur, css, rfl, h1, h2.chg hc (fun hm => h8 (hs g hm h2.lt)), h3, h4, h0, h5, h6, h7.chg hc (fun k hk hl => .inl (hs k hk hl)), h8⟩
theorem OwnO.mono (h : OwnO T E w0 w X v l) (hs : ∀ k, k < w.heap.size → Y k → X k) : OwnO T E w0 w Y v l := by
  rcases h with ⟨A, e1, e2, hA⟩ | ⟨g, off, c, cur, css, rfl, h1, h2, h3, h4, h0, h5, h6, h7, h8⟩
  · exact .inl ⟨A, e1, e2, fun a ha => ⟨(hA a ha).1, (hA a ha).2.1, fun hy => (hA a ha).2.2 (hs _ (hA a ha).2.1 hy)⟩⟩
  · exact .inr ⟨g, off, c, cur, css, rfl, h1, h2, h3, h4, h0, h5, h6, h7.mono fun k hk hy => hy.elim (fun hy => .inl (hs k hk hy)) .inr, fun hy => h8 (hs g h2.lt hy)⟩
theorem OwnO.front {A : Option Addr} {n c k : Nat} (h : OwnO T E w0 w X (.slice A n c) l) (hk : k ≤ l.length) : OwnO T E w0 w X (.slice A k c) (l.take k) := by
  rcases h with ⟨A', he, rfl, hA⟩ | ⟨g, off, c', cur, css, he, h1, h2, h3, h4, h0, h5, h6, h7, h8⟩
  · simp only [Value.slice.injEq] at he
    obtain ⟨rfl, rfl, rfl⟩ := he
    obtain rfl : k = 0 := by simpa using hk
    exact .inl ⟨_, rfl, rfl, hA⟩
  · simp only [Value.slice.injEq] at he
    obtain ⟨rfl, rfl, rfl⟩ := he
    have hl : (l.take k).length = k := by rw [List.length_take, Nat.min_eq_left hk]
    refine .inr ⟨g, off, c, cur, css.take k, by rw [hl], h1, h2, by rw [hl]; omega, h4, h0, h5, fun j u hu => ?_, h7.take k, h8⟩
    rw [← flat_take css E.size k h7.lens, List.getElem?_take] at hu
    split at hu
    · exact h6 j u hu
    · cases hu
theorem OwnO.rest {A : Option Addr} {n c k : Nat} (h : OwnO T E w0 w X (.slice A n c) l) (hk : k ≤ l.length) : OwnO T E w0 w X (.slice (cutA E.size A c k) (l.length - k) (c - k)) (l.drop k) := by
  rcases h with ⟨A', he, rfl, hA⟩ | ⟨g, off, c', cur, css, he, h1, h2, h3, h4, h0, h5, h6, h7, h8⟩
  · simp only [Value.slice.injEq] at he
    obtain ⟨rfl, rfl, rfl⟩ := he
    obtain rfl : k = 0 := by simpa using hk
    exact .inl ⟨_, rfl, rfl, by unfold cutA; rw [if_pos rfl]; exact hA⟩
  · simp only [Value.slice.injEq] at he
    obtain ⟨rfl, rfl, rfl⟩ := he
    have hl : (l.drop k).length = l.length - k := List.length_drop
    by_cases hck : c = k
    · subst hck
      have : l.drop c = [] := List.drop_eq_nil_of_le h3
      rw [this, show l.length - c = 0 by omega, Nat.sub_self]
      exact .inl ⟨_, rfl, rfl, by unfold cutA; rw [if_pos rfl]; intro a ha; obtain rfl := Option.some.inj ha; exact ⟨h1, h2.lt, h8⟩⟩
    · have hca : cutA E.size (some (⟨g, off, none⟩ : Addr)) c k = some ⟨g, off + k * E.size, none⟩ := by
        unfold cutA
        rw [if_neg hck]
        simp only [Option.map_some]
        unfold Addr.add
        split
        · rename_i h; rw [h]; simp
        · rfl
      rw [hca]
      refine .inr ⟨g, off + k * E.size, c - k, cur, css.drop k, by rw [hl], h1, h2, by rw [hl]; omega, by omega, by omega, ?_, fun j u hu => ?_, h7.drop k, h8⟩
      · have : k * E.size + (c - k) * E.size = c * E.size := by rw [← Nat.add_mul]; congr 1; omega
        omega
      · rw [← flat_drop css E.size k h7.lens, List.getElem?_drop] at hu
        rw [Nat.add_assoc]
        exact h6 _ u hu
/-- append with room, from anywhere in a block -/
theorem run_append_roomO {P : Program} (w : World) (t ty e : TypeId) (i : TypeInfo) (ht : P.underlying t = some (.slice e)) (hi : P.info? e = some i)
    (g o sLen sCap : Nat) (cur : Array Value) (hg : w.heap[g]? = some (.cells cur e (0, 0)))
    (a : Addr) (m c : Nat) (news : List Value) (hl : news.length = m * i.size) (hnews : ∀ j u, news[j]? = some u → w.cell? (a.add j) = some u) (h1 : ∀ u ∈ news, u.oneCell' = true)
    (hroom : sLen + m ≤ sCap) (hfit : o + sLen * i.size + news.length ≤ cur.size) :
    (Builtin.append_ #[t, t] ty #[.slice (some ⟨g, o, none⟩) sLen sCap, .slice (some a) m c]).run P w =
      .ok (.slice (some ⟨g, o, none⟩) (sLen + m) sCap) (w.setRow g (cur.toList.take (o + sLen * i.size) ++ news ++ cur.toList.drop (o + sLen * i.size + news.length)).toArray) := by
  have hf := run_firstCells_some (P := P) w i.size m a m c news hl hnews
  have hst := run_storeCells_at P g (o + sLen * i.size) e news 0 cur w hg (by simpa using hfit) h1
  simp only [Nat.add_zero] at hst
  simp [Builtin.append_, run_underlying ht, sizeOf, typeInfo, hi, Builtin.lenOf, hroom, hf, Addr.add_lit, hst]
theorem blk_setRow {w : World} {g : Nat} {t : TypeId} {cur cs : Array Value} (h : Blk w g t cur) : Blk (w.setRow g cs) g t cs := by
  unfold Blk at h ⊢
  simp [World.setRow, Array.getElem?_modify, h]
/-- one more -/
theorem run_ownO {z : Value} {bytes : Nat} (ei : Elt T E z bytes) (t ty : TypeId) (ht : Tryz.prog.underlying t = some (.slice T)) (h : OwnO T E w0 w X v l) (hx0 : Ext w0 w) {a : α}
    {y : Value} (hy : Enc.Sl E w (fun k => X k ∨ v.ownBlock = some k) y [a]) (hX : ∀ k, X k → k < w.heap.size) (hlen : (l.length + 1) * bytes ≤ 140737488355328) (hl2 : l.length + 1 ≤ 140737488355328) :
    ∃ v' w', (Builtin.append_ #[t, t] ty #[v, y]).run Tryz.prog w = .ok v' w' ∧ OwnO T E w0 w' X v' (l ++ [a]) ∧ Ext w0 w' ∧ Chg v.ownBlock.toList w w' ∧ ∀ k, v'.ownBlock = some k → v.ownBlock = some k ∨ w.heap.size ≤ k := by
  obtain ⟨A, c, cs2, rfl, k1, k2, k3, k4, k5⟩ := hy
  obtain ⟨i0, hi, hz0, hz1, hz2⟩ := info_parts ei.info
  obtain ⟨ad, rfl, hb, hcell⟩ := k3.2 (by simp)
  have hone := k5.one
  have hnl : cs2.flatten.length = 1 * E.size := by simpa using k3.1
  simp only [List.length_singleton] at *
  have hm1 : l.length + 1 ≤ maxLen := by simp only [maxLen]; omega
  -- in a block of its own
  have hnew : ∀ (css : List (List Value)) (v' : Value) (w' : World), Enc.Each E w X css l → w'.ownsRow w.heap.size T E.size v' (l.length + 1) (css.flatten ++ cs2.flatten) → w.grownBy w' none → OwnO T E w0 w' X v' (l ++ [a]) ∧ Ext w w' ∧ ∀ k, v'.ownBlock = some k → w.heap.size ≤ k := by
    intro css v' w' he ho hg
    have hxx : Ext w w' := (Ext.rfl' w).grown' hg (fun k hk => by cases hk)
    refine ⟨.of_own ⟨css ++ cs2, ?_, ?_, fun k hk hx => ?_⟩, hxx, fun k hk => (ho.lt k hk).1⟩
    · rw [List.flatten_append, List.length_append, List.length_singleton]
      exact own_base ho hx0.size
    · refine Enc.Each.app ((he.mono fun k hk hy => ?_).ext hxx) ((k5.mono fun k hk hy => ?_).ext hxx)
      · rcases hy with hy | hy
        · exact hy
        · have := (ho.lt k hy).1; omega
      · rcases hy with hy | hy
        · exact .inl hy
        · have := (ho.lt k hy).1; omega
    · have := (ho.lt k hk).1; have := hX k hx; omega
  rcases h with ⟨A, rfl, rfl, hA⟩ | ⟨g, off, c', cur, css, rfl, h1, h2, h3, h4, h0, h5, h6, h7, h8⟩
  · have hgrow : ∃ v' w', (Builtin.append_ #[t, t] ty #[.slice A 0 0, .slice (some ad) 1 c]).run Tryz.prog w = .ok v' w' ∧ w'.ownsRow w.heap.size T E.size v' 1 cs2.flatten ∧ w.grownBy w' none := by
      cases A with
      | some b =>
        obtain ⟨v', w', hr, ho, hg⟩ := run_append_arg_grows (P := Tryz.prog) w t ty T i0 z E.size bytes ht hi hz0 hz1 hz2 ei.zs ei.pos b 0 0 [] (by simp) (fun j u hu => by simp at hu) ad 1 c cs2.flatten hnl hcell (by omega) (by simp [maxLen]) (by simpa using hlen)
        exact ⟨v', w', hr, by simpa using ho, hg⟩
      | none =>
        obtain ⟨v', w', hr, ho, hg, -⟩ := run_append_any (P := Tryz.prog) w w.heap.size t ty T i0 z E.size bytes ht hi hz0 hz1 hz2 ei.zs ei.pos (.slice none 0 0) 0 [] (World.ownsRow_nil w w.heap.size T E.size) w.heap.size (some ad) 1 c cs2.flatten ⟨hnl, fun _ => ⟨ad, rfl, hb, hcell⟩⟩ hone (by simp [maxLen]) (by simpa using hlen) (Nat.le_refl _)
        exact ⟨v', w', hr, by simpa using ho, hg⟩
    obtain ⟨v', w', hr, ho, hg⟩ := hgrow
    obtain ⟨h9, hxx, hob⟩ := hnew [] v' w' (Enc.Each.nil E w X) (by simpa using ho) hg
    exact ⟨v', w', hr, h9, hx0.trans' hxx, hxx.chg _, fun k hk => .inr (hob k hk)⟩
  · have hcl : css.flatten.length = l.length * E.size := h7.len
    by_cases hroom : l.length + 1 ≤ c'
    · have hfit : off + l.length * E.size + cs2.flatten.length ≤ cur.size := by
        rw [hnl, Nat.add_assoc, ← Nat.add_mul]
        exact Nat.le_trans (Nat.add_le_add_left (Nat.mul_le_mul_right _ hroom) _) h5
      have hr := run_append_roomO (P := Tryz.prog) w t ty T i0 ht hi g off l.length c' cur h2 ad 1 c cs2.flatten (by rw [hz1]; exact hnl) hcell hone hroom (by rw [hz1]; exact hfit)
      rw [hz1] at hr
      have hcg : Chg [g] w (w.setRow g (cur.toList.take (off + l.length * E.size) ++ cs2.flatten ++ cur.toList.drop (off + l.length * E.size + cs2.flatten.length)).toArray) :=
        ⟨rfl, rfl, rfl, by simp, fun k _ hn => setRow_other w g k _ (by simpa using hn)⟩
      have hob : (Value.slice (some (⟨g, off, none⟩ : Addr)) l.length c').ownBlock = some g := rfl
      rw [hob] at k5 ⊢
      refine ⟨_, _, hr, .inr ⟨g, off, c', _, css ++ cs2, by rw [List.length_append]; rfl, h1, blk_setRow h2, by rw [List.length_append]; exact hroom, h4, h0, ?_, fun j u hu => ?_, ?_, h8⟩, hx0.then_ hcg (by simpa using h1), hcg, fun k hk => .inl hk⟩
      · simp only [List.size_toArray, List.length_append, List.length_take, List.length_drop, Array.length_toList]
        omega
      · rw [List.flatten_append] at hu
        rw [List.getElem?_toArray]
        rcases Nat.lt_or_ge j css.flatten.length with hj | hj
        · rw [List.getElem?_append_left hj] at hu
          rw [List.append_assoc, List.getElem?_append_left (by rw [List.length_take, Array.length_toList (xs := cur)]; omega), List.getElem?_take, if_pos (by omega), Array.getElem?_toList]
          exact h6 j u hu
        · rw [List.getElem?_append_right hj] at hu
          have hlt := (List.getElem?_eq_some_iff.1 hu).1
          rw [List.append_assoc, List.getElem?_append_right (by rw [List.length_take, Array.length_toList (xs := cur)]; omega), List.length_take, Array.length_toList (xs := cur), Nat.min_eq_left (by omega), show off + j - (off + l.length * E.size) = j - css.flatten.length by omega, List.getElem?_append_left hlt]
          exact hu
      · refine Enc.Each.app (h7.chg hcg fun k hk _ => .inr (by simpa using hk)) ((k5.mono fun k _ hy => ?_).chg hcg fun k hk _ => .inr (by simpa using hk))
        exact hy.elim .inl fun h => .inr (by rw [h])
    · obtain ⟨v', w', hr, ho, hg⟩ := run_append_arg_grows (P := Tryz.prog) w t ty T i0 z E.size bytes ht hi hz0 hz1 hz2 ei.zs ei.pos ⟨g, off, none⟩ l.length c' css.flatten hcl (fun j u hu => by
        have hadd : (⟨g, off, none⟩ : Addr).add j = ⟨g, off + j, none⟩ := by unfold Addr.add; split <;> simp_all
        rw [hadd, h2.cell]
        exact h6 j u hu) ad 1 c cs2.flatten hnl hcell (by omega) hm1 hlen
      obtain ⟨h9, hxx, hob⟩ := hnew css v' w' (h7.mono fun k _ h => .inl h) ho hg
      exact ⟨v', w', hr, h9, hx0.trans' hxx, hxx.chg _, fun k hk => .inr (hob k hk)⟩
theorem step_ownO {ops : Array Oper} {o : Oper} {ac : Act} {K : Act → World → Prop} {Q : Exit → Act → World → Prop} {G : Prop} {z : Value} {bytes : Nat} (ei : Elt T E z bytes) (t : TypeId) (ht : Tryz.prog.underlying t = some (.slice T)) (hgd : o.guard = none) (s x : Operand)
    (ho : o.op = .call { callee := .builtin .append, args := #[s, x], argTypes := #[t, t] }) (h : OwnO T E w0 w X v l) (hs : ac.eval s = v) (hx0 : Ext w0 w) {a : α}
    {y : Value} (hx : ac.eval x = y) (hy : Enc.Sl E w (fun k => X k ∨ v.ownBlock = some k) y [a]) (hX : ∀ k, X k → k < w.heap.size) (hlen : (l.length + 1) * bytes ≤ 140737488355328) (hl2 : l.length + 1 ≤ 140737488355328)
    (hK : ∀ (k : List α) (A : Option Addr) (c : Nat) (w' : World), Hid (k = l ++ [a]) → OwnO T E w0 w' X (.slice A k.length c) k → Ext w0 w' → Chg v.ownBlock.toList w w' → (∀ j, (Value.slice A k.length c).ownBlock = some j → v.ownBlock = some j ∨ w.heap.size ≤ j) → K (ac.put o.dst (.slice A k.length c)) w') :
    if Region.wanted o (yielded ops ac.tmps) = true then Oper.wp Tryz.prog o ac w K Q else G := by
  have hw : Region.wanted o (yielded ops ac.tmps) = true := by simp [Region.wanted, hgd]
  rw [if_pos hw]
  obtain ⟨v', w', hrun, h2, h3, h4, h5⟩ := run_ownO ei t o.type ht h hx0 hy hX hlen hl2
  obtain ⟨A, c, rfl, _, _⟩ := h2.form
  unfold Oper.wp execOp
  simp only [ho, resolve, invoke, builtin, Sem.run_bind, Sem.run_pure, Result.andThen_ok, List.map_toArray, List.map_cons, List.map_nil, hs, hx, hrun]
  exact hK (l ++ [a]) A c w' (hide rfl) h2 h3 h4 h5
end
end Go.Proofs.YtamimdlaclglkaaGreat
namespace Go.Proofs.YtamimdlaclglkaaGreat
set_option linter.unusedVariables false
set_option linter.unusedSimpArgs false
set_option linter.unnecessarySimpa false
set_option maxRecDepth 100000
open Go.RowKit
/-- numbers from which choices are read lie in block g; n of them are read -/
structure PkAt (W : World) (g : Nat) (x : Value) (b : Bytes) (n : Nat) : Prop where
  blk : Blk W g 91 #[x, .int .i64 n]
  bs : Bs W x b
  off : Off x [g]
  le : n ≤ b.length
  len : b.length ≤ 100000
theorem PkAt.ext {W W' : World} {g : Nat} {x : Value} {b : Bytes} {n : Nat} (h : PkAt W g x b n) (hx : Ext W W') : PkAt W' g x b n := ⟨h.blk.ext hx, h.bs.ext hx, h.off, h.le, h.len⟩
theorem PkAt.chg {S : List Nat} {W W' : World} {g : Nat} {x : Value} {b : Bytes} {n : Nat} (h : PkAt W g x b n) (hc : Chg S W W') (hg : g ∉ S) (hx : Off x S) : PkAt W' g x b n := ⟨h.blk.chg hc hg, h.bs.chg hc hx, h.off, h.le, h.len⟩
end Go.Proofs.YtamimdlaclglkaaGreat
namespace Go.Proofs.YtamimdlaclglkaaGreat
set_option linter.unusedVariables false
set_option linter.unusedSimpArgs false
set_option linter.unnecessarySimpa false
set_option maxRecDepth 100000
open Go.RowKit
/-- a command that is made of numbers -/
structure PlayC (c : Cm) : Prop where
  k0 : 1 ≤ c.kind
  k1 : c.kind ≤ 4
  client : c.client = 0
  seq : c.seq = 0
  name : c.name.length ≤ 20
  url : c.url.length ≤ 20
  t0 : 0 ≤ c.till
  t1 : c.till ≤ 40
/-- while a command is made -/
def PR (g gc : Nat) (x : Value) (b : Bytes) (w1 W : World) : Prop := ∃ (n : Nat) (c : Cm), PkAt W g x b n ∧ Blk W gc 37 (ccells c) ∧ PlayC c ∧ Chg [g, gc] w1 W
theorem PR.drew {g gc : Nat} {x : Value} {b : Bytes} {w1 W : World} (h : PR g gc x b w1 W) : PR g gc x b w1 W.drew := by
  obtain ⟨n, c, h1, h2, h3, h4⟩ := h
  exact ⟨n, c, h1.ext (Ext.rfl' W).drew', h2.drew, h3, h4.drew⟩
theorem PlayC.wide {c : Cm} (h : PlayC c) : c.wide := by
  have h1 := h.k0; have h2 := h.k1; have h3 := h.client; have h4 := h.seq; have h5 := h.name; have h6 := h.url; have h7 := h.t0; have h8 := h.t1
  exact ⟨by omega, by omega, by omega, by omega, by omega, by omega, by unfold maxLen; omega, by unfold maxLen; omega, h7, by omega⟩
theorem cm_rep {w : World} {X : Avoid} {c : Cm} (h : c.wide) : cmE.rep w X (ccells c).toList c := by
  obtain ⟨k0, k1, c0, c1, s0, s1, n1, u1, t0, t1⟩ := h
  exact ⟨[_], [_, _, _, _, _], rfl, ⟨rfl, k0, k1⟩, [_], [_, _, _, _], rfl, ⟨rfl, c0, c1⟩, [_], [_, _, _], rfl, ⟨rfl, s0, s1⟩, [_], [_, _], rfl, ⟨rfl, n1⟩, [_], [_], rfl, ⟨rfl, u1⟩, [_], [], rfl, ⟨rfl, t0, t1⟩, rfl⟩
end Go.Proofs.YtamimdlaclglkaaGreat
namespace Go.Proofs.YtamimdlaclglkaaGreat
set_option linter.unusedVariables false
set_option linter.unusedSimpArgs false
set_option linter.unnecessarySimpa false
set_option maxRecDepth 100000
open Go.RowKit
theorem ldoK_eq {s : St} (h : LInv s) (c : Cm) : ldoW lfind lkput s c = ldo s c := by
  unfold ldo ldoW
  by_cases h4 : c.kind = 4
  · rw [if_pos h4, if_pos h4]
  rw [if_neg h4, if_neg h4]
  by_cases h1 : c.kind = 1
  · rw [if_pos h1, if_pos h1]
    unfold lmakeW
    split
    · rfl
    · split
      · rfl
      · split
        · rfl
        · rename_i hc
          rw [lwith_new (h.fresh (by omega))]
  rw [if_neg h1, if_neg h1]
  by_cases h2 : c.kind = 2
  · rw [if_pos h2, if_pos h2]
    unfold lnameW
    split
    · rfl
    · split
      · rfl
      · split
        · rfl
        · rename_i hf
          rw [lwith_new hf]
  rw [if_neg h2, if_neg h2]
/-- a state and an answer -/
def RetDo (X : Avoid) (w w' : World) (e : Ending) (r : St × An) : Prop :=
  ∃ (t : St) (a : An) (At : Option Addr) (ct : Nat) (Au : Option Addr) (cu : Nat), Hid ((t, a) = r) ∧ e = .returned (.tuple #[.agg #[.int .u64 t.now, .int .u64 t.count, .slice At t.links.length ct, .slice Au t.sess.length cu], .agg (acells a).toArray]) ∧
    stE.rep w' X [.int .u64 t.now, .int .u64 t.count, .slice At t.links.length ct, .slice Au t.sess.length cu] t ∧ Ext w w'
theorem cm_at {w : World} {X : Avoid} {A : Option Addr} {n c k : Nat} {l : List Cm} (h : Enc.Sl cmE w X (.slice A n c) l) (hk : k < l.length) : ∃ (ad : Addr) (m : Cm), A = some ad ∧ Hid (l[k]? = some m) ∧ ad.block < w.heap.size ∧ w.cell? (ad.add (k * 6)) = some (.int .i64 m.kind) ∧
    w.cell? ⟨(ad.add (k * 6)).block, (ad.add (k * 6)).off + 1, none⟩ = some (.int .i64 m.client) ∧ w.cell? ⟨(ad.add (k * 6)).block, (ad.add (k * 6)).off + 2, none⟩ = some (.int .u64 m.seq) ∧
    w.cell? ⟨(ad.add (k * 6)).block, (ad.add (k * 6)).off + 3, none⟩ = some (str m.name) ∧ w.cell? ⟨(ad.add (k * 6)).block, (ad.add (k * 6)).off + 4, none⟩ = some (str m.url) ∧
    w.cell? ⟨(ad.add (k * 6)).block, (ad.add (k * 6)).off + 5, none⟩ = some (.int .u64 m.till) ∧ m.wide := by
  obtain ⟨ad, cs, rfl, hrep, hb, hcell⟩ := h.at_ hk
  obtain ⟨h1, h2⟩ := cmE_rep (cs := cs.toArray) (by simpa using hrep)
  have h3 : cs = (ccells l[k]).toList := by rw [← h1]
  subst h3
  exact ⟨ad, _, rfl, hide (List.getElem?_eq_getElem hk), hb, Enc.cell0 hcell rfl, Enc.cellS hcell 0 rfl, Enc.cellS hcell 1 rfl, Enc.cellS hcell 2 rfl, Enc.cellS hcell 3 rfl, Enc.cellS hcell 4 rfl, h2⟩
end Go.Proofs.YtamimdlaclglkaaGreat
namespace Go.Proofs.YtamimdlaclglkaaGreat
set_option linter.unusedVariables false
set_option linter.unusedSimpArgs false
set_option linter.unnecessarySimpa false
set_option maxRecDepth 100000
open Go.RowKit
theorem two_alR (W : World) (T1 T2 : TypeId) (c1 c2 : Array Value) : Blk ((W.alloc (.cells c1 T1)).alloc (.cells c2 T2)) W.heap.size T1 c1 ∧ Blk ((W.alloc (.cells c1 T1)).alloc (.cells c2 T2)) (W.heap.size + 1) T2 c2 ∧ Ext W ((W.alloc (.cells c1 T1)).alloc (.cells c2 T2)) := by
  have h2 := Blk.new (W.alloc (.cells c1 T1)) T2 c2
  rw [show (W.alloc (.cells c1 T1)).heap.size = W.heap.size + 1 by simp] at h2
  exact ⟨(Blk.new W T1 c1).alloc _, h2, ((Ext.rfl' W).alloc' _).alloc' _⟩
end Go.Proofs.YtamimdlaclglkaaGreat
namespace Go.Proofs.YtamimdlaclglkaaGreat
set_option linter.unusedVariables false
set_option linter.unusedSimpArgs false
set_option linter.unnecessarySimpa false
set_option maxRecDepth 100000
open Go.RowKit
theorem three_al (W : World) (T1 T2 T3 : TypeId) (c1 c2 c3 : Array Value) : Blk (((W.alloc (.cells c1 T1)).alloc (.cells c2 T2)).alloc (.cells c3 T3)) W.heap.size T1 c1 ∧ Blk (((W.alloc (.cells c1 T1)).alloc (.cells c2 T2)).alloc (.cells c3 T3)) (W.heap.size + 1) T2 c2 ∧
    Blk (((W.alloc (.cells c1 T1)).alloc (.cells c2 T2)).alloc (.cells c3 T3)) (W.heap.size + 1 + 1) T3 c3 ∧ Ext W (((W.alloc (.cells c1 T1)).alloc (.cells c2 T2)).alloc (.cells c3 T3)) := by
  obtain ⟨h1, h2, hx⟩ := two_alR W T1 T2 c1 c2
  have h3 := Blk.new ((W.alloc (.cells c1 T1)).alloc (.cells c2 T2)) T3 c3
  rw [show ((W.alloc (.cells c1 T1)).alloc (.cells c2 T2)).heap.size = W.heap.size + 1 + 1 by simp] at h3
  exact ⟨h1.alloc _, h2.alloc _, h3, hx.alloc' _⟩
end Go.Proofs.YtamimdlaclglkaaGreat
