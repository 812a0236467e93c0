/- A part of the proof of 'StateBytes'. -/
import Derived.Test.YtamimdlaclglkaaGreatB28
import Derived.Test.YtamimdlaclglkaaGreatB27
namespace Go.Proofs.YtamimdlaclglkaaGreat
set_option linter.unusedVariables false
set_option linter.unusedSimpArgs false
set_option linter.unnecessarySimpa false
set_option maxRecDepth 100000
open Go.RowKit
theorem OwnO.chgF {α : Type} {T : TypeId} {E : Enc α} {S : List Nat} {w0 w w' : World} {X : Avoid} {v : Value} {l : List α} (h : OwnO T E w0 w X v l) (hc : Chg S w w') (hn : ∀ k, v.ownBlock = some k → k ∉ S) (hE : ∀ {Y cs a}, E.rep w Y cs a → E.rep w' Y cs a) : OwnO T E w0 w' X v l := by
  rcases h with ⟨A, e1, e2, hA⟩ | ⟨g, off, c, cur, css, rfl, h1, h2, h3, h4, h0, h5, h6, h7, h8⟩
  · exact .inl ⟨A, e1, e2, fun a ha => ⟨(hA a ha).1, Nat.lt_of_lt_of_le (hA a ha).2.1 hc.size, (hA a ha).2.2⟩⟩
  · exact .inr ⟨g, off, c, cur, css, rfl, h1, h2.chg hc (hn g rfl), h3, h4, h0, h5, h6, ⟨h7.1, fun k cs a e1 e2 => hE (h7.2 k cs a e1 e2)⟩, h8⟩
/-- a reader of sessions: what it has so far lies in new memory, and the links too -/
def RdS (w0 W : World) (g : Nat) (s : Rdr) (now count : Int) (Al : Option Addr) (cl : Nat) (L : List Ln) (n : Nat) (l : List Se) : Prop :=
  ∃ v A c, SAt W g v s [.int .u64 now, .int .u64 count, .slice Al L.length cl, .slice A l.length c] ∧ OwnO 53 lnE w0 W (fun j => j = g) (.slice Al L.length cl) L ∧
    OwnO 56 seE w0 W (fun j => j = g ∨ (Value.slice Al L.length cl).ownBlock = some j ∨ j < w0.heap.size) (.slice A l.length c) l ∧ (∀ S, (∀ k, k ∈ S → w0.heap.size ≤ k) → Off v S) ∧ Ext w0 W ∧ l.length + n ≤ 65535
theorem elt_se_ : Elt 56 seE (.agg #[.int .i64 0, .int .u64 0, .slice none 0 0]) 40 := ⟨by kernel_rfl, rfl, by decide⟩
set_option maxHeartbeats 6400000 in
theorem ssess_b (w0 : World) (g : Nat) (s : Rdr) (now count : Int) (Al : Option Addr) (cl : Nat) (L : List Ln) (n : Nat) (l : List Se) (w : World) (hg : w0.heap.size ≤ g) (h : RdS w0 w g s now count Al cl L (n + 1) l) :
    Calls Tryz.prog 42 #[.pointer (some ⟨g, 0, none⟩)] w fun e w' => e = .returned (.tuple #[]) ∧ RdS w0 w' g (psess s).2 now count Al cl L n (l ++ [(psess s).1]) := by
  obtain ⟨v, A, c, h0, hlk, hown, hof, hx0, hl⟩ := h
  obtain ⟨⟨a, s1⟩, h1⟩ : ∃ r, pnum 1 s = r := ⟨_, rfl⟩
  obtain ⟨⟨b, s2⟩, h2⟩ : ∃ r, pnum 8 s1 = r := ⟨_, rfl⟩
  obtain ⟨⟨k, s3⟩, h3⟩ : ∃ r, pnum 1 s2 = r := ⟨_, rfl⟩
  obtain ⟨⟨dl, s4⟩, h4⟩ : ∃ r, ptimes pdone k.toNat s3 = r := ⟨_, rfl⟩
  have HP : Hid (psess s = (⟨a, b, dl⟩, s4)) := hide (by unfold psess; simp only [h1, h2, h3, h4])
  have ha := pnum_u8 s
  rw [h1] at ha
  have hb := pnum_u64 s1
  rw [h2] at hb
  have hk := pnum_u8 s2
  rw [h3] at hk
  simp only at ha hb hk
  obtain ⟨kn, hkn⟩ : ∃ m : Nat, k = (m : Int) := ⟨k.toNat, by omega⟩
  subst hkn
  have HT := hide h4
  rw [Int.toNat_natCast] at HT
  have HWA : IntKind.i64.wrap a = a := IntWalk.i64_in _ ⟨by omega, by omega⟩
  have C1 := hide (fun (W : World) v M (h : SAt W g v s M) => snumF_b g v s M 1 W h (by decide))
  have C2 := hide (fun (W : World) v M (h : SAt W g v s1 M) => snumF_b g v s1 M 8 W h (by decide))
  have C3 := hide (fun (W : World) v M (h : SAt W g v s2 M) => snumF_b g v s2 M 1 W h (by decide))
  rw [h1] at C1
  rw [h2] at C2
  rw [h3] at C3
  simp only at C1 C2 C3
  rw [HP.out]
  clear h1 h2 h3 h4 HP
  obtain ⟨M, hM⟩ : ∃ M : List Value, M = [.int .u64 now, .int .u64 count, .slice Al L.length cl, .slice A l.length c] := ⟨_, rfl⟩
  rw [← hM] at h0
  have HM := hide hM
  clear hM
  have hz : Ext w (w.alloc (.cells #[.pointer (some ⟨g, 0, none⟩)] 73)) := (Ext.rfl' _).alloc' _
  have hB0 := Blk.new w 73 #[.pointer (some ⟨g, 0, none⟩)]
  obtain ⟨gb, hgb⟩ : ∃ g_, w.heap.size = g_ := ⟨_, rfl⟩
  have hgl : g < gb := by rw [← hgb]; exact h0.blk.lt
  have h0' := h0.ext hz
  rw [hgb] at hB0
  go_enter Tryz.func42, Tryz.ntmps42
  go_upto_region 1 with fail
  try rw [hgb]
  obtain ⟨W0, hW0⟩ : ∃ W0, W0 = (w.alloc (.cells #[.pointer (some ⟨g, 0, none⟩)] 73)) := ⟨_, rfl⟩
  rw [← hW0] at hz hB0 h0' ⊢
  clear hW0
  have hgb' : gb ≠ g := by omega
  obtain ⟨n1, hn1⟩ : ∃ n_, W0.heap.size = n_ := ⟨_, rfl⟩
  have hgbn : gb < n1 := by rw [← hn1]; exact hB0.lt
  clear h0
  have h0 := h0'
  clear h0'
  refine Rg.regionW Tryz.checked.mixed 34 11 (by kernel_rfl) [
    (false, (fun x_ _ => x_ = .pointer (some ⟨g, 0, none⟩))),
    (false, (fun x_ _ => x_ = .pointer (some ⟨g, 0, none⟩))),
    (false, (fun x_ _ => x_ = .pointer (some ⟨g, 0, none⟩))),
    (true, (fun x_ _ => x_ = .int .u64 a)),
    (false, (fun x_ _ => x_ = .int .i64 a)),
    (false, (fun x_ _ => x_ = .pointer (some ⟨g, 0, none⟩))),
    (false, (fun x_ _ => x_ = .pointer (some ⟨g, 0, none⟩))),
    (false, (fun x_ _ => x_ = .pointer (some ⟨g, 0, none⟩))),
    (true, (fun x_ _ => x_ = .int .u64 b)),
    (false, (fun x_ _ => x_ = .agg #[.int .i64 a, .int .u64 b, .slice none 0 0])),
    (false, (fun v W => ∃ b, v = .pointer (some ⟨b, 0, none⟩) ∧ n1 ≤ b ∧ Blk W b 56 #[.int .i64 0, .int .u64 0, .slice none 0 0]))] (by kernel_rfl) (RNx g v M W0 s s1 s2) (Chg [g]) rfl rfl rfl
    ?st ⟨v, h0.drewS, (Chg.refl _ _).drew, fun _ hS => hS⟩ ?ob ?en
  case st => exact ⟨fun _ _ _ h _ => h, fun _ _ _ h _ => h, fun _ _ _ h _ => h, fun _ _ _ h _ => h, fun _ _ _ h _ => h, fun _ _ _ h _ => h, fun _ _ _ h _ => h, fun _ _ _ h _ => h, fun _ _ _ h _ => h, fun _ _ _ h _ => h, fun _ _ _ ⟨b, h1, h2, h3⟩ hx => ⟨b, h1, h2, h3.chg hx (by simp; omega)⟩, trivial⟩
  case ob =>
    refine ⟨fun i => Rg.at_runW [1] rfl ?_, ?_⟩
    · intro ρ W hR ⟨q1, _⟩
      replace q1 : ρ 1 = .pointer (some ⟨gb, 0, none⟩) := q1
      refine ⟨rfl, ?_⟩
      obtain ⟨q_, v5, h5, c5, o5, rr⟩ := RNx.at_ hR
      have c_ : W.cell? ⟨gb, 0, none⟩ = some (.pointer (some ⟨g, 0, none⟩)) := ((hB0.chg c5 (by simpa using hgb')).cell 0).trans rfl
      exact Rg.run_ok (v := .pointer (some ⟨g, 0, none⟩)) (by simp [execOp, Rg.ev, go_sem, q1, c_]) ⟨rfl, hR, Chg.refl _ _⟩
    refine ⟨fun i => Rg.at_runW [3] rfl ?_, ?_⟩
    · intro ρ W hR ⟨q3, _⟩
      replace q3 : ρ 3 = .pointer (some ⟨g, 0, none⟩) := q3
      refine ⟨rfl, ?_⟩
      exact Rg.run_ok (v := .pointer (some ⟨g, 0, none⟩)) (by simp [execOp, Rg.ev, go_sem, q3]) ⟨rfl, hR, Chg.refl _ _⟩
    refine ⟨fun i => Rg.at_runW [4] rfl ?_, ?_⟩
    · intro ρ W hR ⟨q4, _⟩
      replace q4 : ρ 4 = .pointer (some ⟨g, 0, none⟩) := q4
      refine ⟨rfl, ?_⟩
      exact Rg.run_ok (v := .pointer (some ⟨g, 0, none⟩)) (by simp [execOp, Rg.ev, go_sem, q4]) ⟨rfl, hR, Chg.refl _ _⟩
    refine ⟨Rg.at_runW [5] rfl ?_, ?_⟩
    · intro ρ W hR ⟨q5, _⟩
      replace q5 : ρ 5 = .pointer (some ⟨g, 0, none⟩) := q5
      refine ⟨rfl, ?_⟩
      obtain ⟨v5, h5, c5, o5⟩ := hR
      refine Rg.enter_fn (args := #[.pointer (some ⟨g, 0, none⟩), .int .i64 1, .int .u64 18446744073709551615]) rfl (by simp only [List.map_toArray, List.map_cons, List.map_nil, Rg.ev, q5]) (by kernel_rfl) ?_
      refine (C1.out W v5 M h5).mono ?_
      rintro e_ w9 ⟨rfl, v6, k1, k2, k3⟩
      exact ⟨_, rfl, rfl, ⟨v6, k1, c5.trans k2, fun S hS => k3 S (o5 S hS)⟩, k2⟩
    refine ⟨fun i => Rg.at_runW [6] rfl ?_, ?_⟩
    · intro ρ W hR ⟨q6, _⟩
      replace q6 : ρ 6 = .int .u64 a := q6
      refine ⟨rfl, ?_⟩
      exact Rg.run_ok (v := .int .i64 a) (by simp [execOp, Rg.ev, go_sem, q6, HWA]) ⟨rfl, hR, Chg.refl _ _⟩
    refine ⟨fun i => Rg.at_runW [1] rfl ?_, ?_⟩
    · intro ρ W hR ⟨q1, _⟩
      replace q1 : ρ 1 = .pointer (some ⟨gb, 0, none⟩) := q1
      refine ⟨rfl, ?_⟩
      obtain ⟨q_, v5, h5, c5, o5, rr⟩ := RNx.at_ hR
      have c_ : W.cell? ⟨gb, 0, none⟩ = some (.pointer (some ⟨g, 0, none⟩)) := ((hB0.chg c5 (by simpa using hgb')).cell 0).trans rfl
      exact Rg.run_ok (v := .pointer (some ⟨g, 0, none⟩)) (by simp [execOp, Rg.ev, go_sem, q1, c_]) ⟨rfl, hR, Chg.refl _ _⟩
    refine ⟨fun i => Rg.at_runW [8] rfl ?_, ?_⟩
    · intro ρ W hR ⟨q8, _⟩
      replace q8 : ρ 8 = .pointer (some ⟨g, 0, none⟩) := q8
      refine ⟨rfl, ?_⟩
      exact Rg.run_ok (v := .pointer (some ⟨g, 0, none⟩)) (by simp [execOp, Rg.ev, go_sem, q8]) ⟨rfl, hR, Chg.refl _ _⟩
    refine ⟨fun i => Rg.at_runW [9] rfl ?_, ?_⟩
    · intro ρ W hR ⟨q9, _⟩
      replace q9 : ρ 9 = .pointer (some ⟨g, 0, none⟩) := q9
      refine ⟨rfl, ?_⟩
      exact Rg.run_ok (v := .pointer (some ⟨g, 0, none⟩)) (by simp [execOp, Rg.ev, go_sem, q9]) ⟨rfl, hR, Chg.refl _ _⟩
    refine ⟨Rg.at_runW [10] rfl ?_, ?_⟩
    · intro ρ W hR ⟨q10, _⟩
      replace q10 : ρ 10 = .pointer (some ⟨g, 0, none⟩) := q10
      refine ⟨rfl, ?_⟩
      obtain ⟨v5, h5, c5, o5⟩ := hR
      refine Rg.enter_fn (args := #[.pointer (some ⟨g, 0, none⟩), .int .i64 8, .int .u64 18446744073709551615]) rfl (by simp only [List.map_toArray, List.map_cons, List.map_nil, Rg.ev, q10]) (by kernel_rfl) ?_
      refine (C2.out W v5 M h5).mono ?_
      rintro e_ w9 ⟨rfl, v6, k1, k2, k3⟩
      exact ⟨_, rfl, rfl, ⟨v6, k1, c5.trans k2, fun S hS => k3 S (o5 S hS)⟩, k2⟩
    refine ⟨fun i => Rg.at_runW [7, 11] rfl ?_, ?_⟩
    · intro ρ W hR ⟨q7, q11, _⟩
      replace q7 : ρ 7 = .int .i64 a := q7
      replace q11 : ρ 11 = .int .u64 b := q11
      refine ⟨rfl, ?_⟩
      exact Rg.run_ok (v := .agg #[.int .i64 a, .int .u64 b, .slice none 0 0]) (by simp [execOp, Rg.ev, go_sem, q7, q11] <;> rfl) ⟨rfl, hR, Chg.refl _ _⟩
    refine ⟨fun i => Rg.at_runW [] rfl ?_, ?_⟩
    · intro ρ W hR _
      refine ⟨rfl, ?_⟩
      obtain ⟨q_, v5, h5, c5, o5, rr⟩ := RNx.at_ hR
      exact Rg.run_ok (v := .pointer (some ⟨W.heap.size, 0, none⟩)) (W' := W.alloc (.cells #[.int .i64 0, .int .u64 0, .slice none 0 0] 56)) (by simp [execOp, Rg.ev, go_sem] <;> rfl) ⟨⟨_, rfl, by have := c5.size; omega, Blk.new W _ _⟩, rr _ _ (h5.ext ((Ext.rfl' W).alloc' _)) (c5.alloc _) o5, ((Ext.rfl' W).alloc' _).chg _⟩
    trivial
  case en =>
    intro tm W hR hsz hk
    rw [Rg.fin_eq (ds := [3, 4, 5, 6, 7, 8, 9, 10, 11, 12, 2]) rfl rfl rfl hsz hk]
    have k2 : (fun v W => ∃ b, v = .pointer (some ⟨b, 0, none⟩) ∧ n1 ≤ b ∧ Blk W b 56 #[.int .i64 0, .int .u64 0, .slice none 0 0]) (tm.getD 2 undef) W := hk 2
    have k3 : tm.getD 3 undef = .pointer (some ⟨g, 0, none⟩) := hk 3
    have k4 : tm.getD 4 undef = .pointer (some ⟨g, 0, none⟩) := hk 4
    have k5 : tm.getD 5 undef = .pointer (some ⟨g, 0, none⟩) := hk 5
    have k6 : tm.getD 6 undef = .int .u64 a := hk 6
    have k7 : tm.getD 7 undef = .int .i64 a := hk 7
    have k8 : tm.getD 8 undef = .pointer (some ⟨g, 0, none⟩) := hk 8
    have k9 : tm.getD 9 undef = .pointer (some ⟨g, 0, none⟩) := hk 9
    have k10 : tm.getD 10 undef = .pointer (some ⟨g, 0, none⟩) := hk 10
    have k11 : tm.getD 11 undef = .int .u64 b := hk 11
    have k12 : tm.getD 12 undef = .agg #[.int .i64 a, .int .u64 b, .slice none 0 0] := hk 12
    clear hk hsz
    simp only [Rg.putAll, List.setIfInBounds_toArray, List.set_cons_zero, List.set_cons_succ, k3, k4, k5, k6, k7, k8, k9, k10, k11, k12]
    generalize tm.getD 2 undef = u2 at *
    clear k3
    clear k4
    clear k5
    clear k6
    clear k7
    clear k8
    clear k9
    clear k10
    clear k11
    clear k12
    obtain ⟨gx, rfl, hgx1, hX0⟩ := k2
    obtain ⟨v1, q1_, x1, o1⟩ := hR
    have h1 : SAt W g v1 s2 M := q1_
    clear q1_ h0
    have hB1 := hB0.chg x1 (by simpa using hgb')
    simp only [List.drop_succ_cons, List.drop_zero]
    have e0 := (hX0.cell 0).trans rfl
    have e1 := (hX0.cell 1).trans rfl
    have e2 := (hX0.cell 2).trans rfl
    have f0 := hX0.frozen 0
    have f1 := hX0.frozen 1
    have f2 := hX0.frozen 2
    go_upto_region 2 with fail
    have hcx : Chg [gx] W (((W.setCell ⟨gx, 0, none⟩ (.int .i64 a)).setCell ⟨gx, 1, none⟩ (.int .u64 b)).setCell ⟨gx, 2, none⟩ (.slice none 0 0)) := (((Chg.refl _ _).set (by simp) _).set (by simp) _).set (by simp) _
    have hX1 := ((hX0.set_ 0 (.int .i64 a)).set_ 1 (.int .u64 b)).set_ 2 (.slice none 0 0)
    have hgxg : gx ≠ g := by omega
    have hgxb : gx ≠ gb := by omega
    have hbn : ∀ q, q ∈ [gx] → w0.heap.size ≤ q := fun q hq => by rw [List.mem_singleton.1 hq]; have := hx0.size; have := hz.size; omega
    have hof1 : ∀ S, (∀ q, q ∈ S → w0.heap.size ≤ q) → Off v1 S := fun S hS => o1 _ (hof S hS)
    have h1_ := h1.chgS hcx (by simpa using fun h : g = gx => hgxg h.symm) (hof1 _ hbn)
    have hB2 := hB1.chg hcx (by simpa using fun h : gb = gx => hgxb h.symm)
    obtain ⟨W1, hW1⟩ : ∃ W1, W1 = (((W.setCell ⟨gx, 0, none⟩ (.int .i64 a)).setCell ⟨gx, 1, none⟩ (.int .u64 b)).setCell ⟨gx, 2, none⟩ (.slice none 0 0)) := ⟨_, rfl⟩
    rw [← hW1] at hcx hX1 h1_ hB2 ⊢
    clear hW1 h1 hB1 e0 e1 e2 f0 f1 f2 hX0
    have h1 := h1_
    have hB1 := hB2
    clear h1_ hB2
    have hX1' : Blk W1 gx 56 #[.int .i64 a, .int .u64 b, .slice none 0 0] := hX1
    clear hX1
    have x1' := ((hz.chg [g, gx]).trans (x1.mono (by simp))).trans (hcx.mono (by simp))
    refine Rg.regionW Tryz.checked.mixed 34 8 (by kernel_rfl) [
      (false, (fun x_ _ => x_ = .pointer (some ⟨g, 0, none⟩))),
      (false, (fun x_ _ => x_ = .pointer (some ⟨g, 0, none⟩))),
      (false, (fun x_ _ => x_ = .pointer (some ⟨g, 0, none⟩))),
      (false, (fun x_ _ => x_ = .pointer (some ⟨g, 0, none⟩))),
      (false, (fun x_ _ => x_ = .pointer (some ⟨g, 0, none⟩))),
      (false, (fun x_ _ => x_ = .pointer (some ⟨g, 0, none⟩))),
      (true, (fun x_ _ => x_ = .int .u64 kn)),
      (false, (fun x_ _ => x_ = .func (.func 77) #[] #[.pointer (some ⟨gx, 0, none⟩), .pointer (some ⟨gb, 0, none⟩)]))] (by kernel_rfl) (RNx g v1 M W1 s2 s3 s3) (Chg [g]) rfl rfl rfl
      ?st ⟨v1, h1.drewS, (Chg.refl _ _).drew, fun _ hS => hS⟩ ?ob ?en
    case st => exact ⟨fun _ _ _ h _ => h, fun _ _ _ h _ => h, fun _ _ _ h _ => h, fun _ _ _ h _ => h, fun _ _ _ h _ => h, fun _ _ _ h _ => h, fun _ _ _ h _ => h, fun _ _ _ h _ => h, trivial⟩
    case ob =>
      refine ⟨fun i => Rg.at_runW [1] rfl ?_, ?_⟩
      · intro ρ W hR ⟨q1, _⟩
        replace q1 : ρ 1 = .pointer (some ⟨gb, 0, none⟩) := q1
        refine ⟨rfl, ?_⟩
        obtain ⟨q_, v5, h5, c5, o5, rr⟩ := RNx.at_ hR
        have c_ : W.cell? ⟨gb, 0, none⟩ = some (.pointer (some ⟨g, 0, none⟩)) := ((hB1.chg c5 (by simpa using hgb')).cell 0).trans rfl
        exact Rg.run_ok (v := .pointer (some ⟨g, 0, none⟩)) (by simp [execOp, Rg.ev, go_sem, q1, c_]) ⟨rfl, hR, Chg.refl _ _⟩
      refine ⟨fun i => Rg.at_runW [13] rfl ?_, ?_⟩
      · intro ρ W hR ⟨q13, _⟩
        replace q13 : ρ 13 = .pointer (some ⟨g, 0, none⟩) := q13
        refine ⟨rfl, ?_⟩
        exact Rg.run_ok (v := .pointer (some ⟨g, 0, none⟩)) (by simp [execOp, Rg.ev, go_sem, q13]) ⟨rfl, hR, Chg.refl _ _⟩
      refine ⟨fun i => Rg.at_runW [14] rfl ?_, ?_⟩
      · intro ρ W hR ⟨q14, _⟩
        replace q14 : ρ 14 = .pointer (some ⟨g, 0, none⟩) := q14
        refine ⟨rfl, ?_⟩
        exact Rg.run_ok (v := .pointer (some ⟨g, 0, none⟩)) (by simp [execOp, Rg.ev, go_sem, q14]) ⟨rfl, hR, Chg.refl _ _⟩
      refine ⟨fun i => Rg.at_runW [1] rfl ?_, ?_⟩
      · intro ρ W hR ⟨q1, _⟩
        replace q1 : ρ 1 = .pointer (some ⟨gb, 0, none⟩) := q1
        refine ⟨rfl, ?_⟩
        obtain ⟨q_, v5, h5, c5, o5, rr⟩ := RNx.at_ hR
        have c_ : W.cell? ⟨gb, 0, none⟩ = some (.pointer (some ⟨g, 0, none⟩)) := ((hB1.chg c5 (by simpa using hgb')).cell 0).trans rfl
        exact Rg.run_ok (v := .pointer (some ⟨g, 0, none⟩)) (by simp [execOp, Rg.ev, go_sem, q1, c_]) ⟨rfl, hR, Chg.refl _ _⟩
      refine ⟨fun i => Rg.at_runW [16] rfl ?_, ?_⟩
      · intro ρ W hR ⟨q16, _⟩
        replace q16 : ρ 16 = .pointer (some ⟨g, 0, none⟩) := q16
        refine ⟨rfl, ?_⟩
        exact Rg.run_ok (v := .pointer (some ⟨g, 0, none⟩)) (by simp [execOp, Rg.ev, go_sem, q16]) ⟨rfl, hR, Chg.refl _ _⟩
      refine ⟨fun i => Rg.at_runW [17] rfl ?_, ?_⟩
      · intro ρ W hR ⟨q17, _⟩
        replace q17 : ρ 17 = .pointer (some ⟨g, 0, none⟩) := q17
        refine ⟨rfl, ?_⟩
        exact Rg.run_ok (v := .pointer (some ⟨g, 0, none⟩)) (by simp [execOp, Rg.ev, go_sem, q17]) ⟨rfl, hR, Chg.refl _ _⟩
      refine ⟨Rg.at_runW [18] rfl ?_, ?_⟩
      · intro ρ W hR ⟨q18, _⟩
        replace q18 : ρ 18 = .pointer (some ⟨g, 0, none⟩) := q18
        refine ⟨rfl, ?_⟩
        obtain ⟨v5, h5, c5, o5⟩ := hR
        refine Rg.enter_fn (args := #[.pointer (some ⟨g, 0, none⟩), .int .i64 1, .int .u64 18446744073709551615]) rfl (by simp only [List.map_toArray, List.map_cons, List.map_nil, Rg.ev, q18]) (by kernel_rfl) ?_
        refine (C3.out W v5 M h5).mono ?_
        rintro e_ w9 ⟨rfl, v6, k1, k2, k3⟩
        exact ⟨_, rfl, rfl, ⟨v6, k1, c5.trans k2, fun S hS => k3 S (o5 S hS)⟩, k2⟩
      refine ⟨fun i => Rg.at_runW [2, 1] rfl ?_, ?_⟩
      · intro ρ W hR ⟨q2, q1, _⟩
        replace q2 : ρ 2 = .pointer (some ⟨gx, 0, none⟩) := q2
        replace q1 : ρ 1 = .pointer (some ⟨gb, 0, none⟩) := q1
        refine ⟨rfl, ?_⟩
        exact Rg.run_ok (v := .func (.func 77) #[] #[.pointer (some ⟨gx, 0, none⟩), .pointer (some ⟨gb, 0, none⟩)]) (by simp [execOp, Rg.ev, go_sem, q2, q1] <;> rfl) ⟨rfl, hR, Chg.refl _ _⟩
      trivial
    case en =>
      intro tm W hR hsz hk
      rw [Rg.fin_eq (ds := [13, 14, 15, 16, 17, 18, 19, 20]) rfl rfl rfl hsz hk]
      have k13 : tm.getD 13 undef = .pointer (some ⟨g, 0, none⟩) := hk 13
      have k14 : tm.getD 14 undef = .pointer (some ⟨g, 0, none⟩) := hk 14
      have k15 : tm.getD 15 undef = .pointer (some ⟨g, 0, none⟩) := hk 15
      have k16 : tm.getD 16 undef = .pointer (some ⟨g, 0, none⟩) := hk 16
      have k17 : tm.getD 17 undef = .pointer (some ⟨g, 0, none⟩) := hk 17
      have k18 : tm.getD 18 undef = .pointer (some ⟨g, 0, none⟩) := hk 18
      have k19 : tm.getD 19 undef = .int .u64 kn := hk 19
      have k20 : tm.getD 20 undef = .func (.func 77) #[] #[.pointer (some ⟨gx, 0, none⟩), .pointer (some ⟨gb, 0, none⟩)] := hk 20
      clear hk hsz
      simp only [Rg.putAll, List.setIfInBounds_toArray, List.set_cons_zero, List.set_cons_succ, k13, k14, k15, k16, k17, k18, k19, k20]
      clear k13
      clear k14
      clear k15
      clear k16
      clear k17
      clear k18
      clear k19
      clear k20
      obtain ⟨v3, q3_, x2, o2⟩ := hR
      have h3 : SAt W g v3 s3 M := q3_
      clear q3_
      have hX2 := hX1'.chg x2 (by simpa using hgxg)
      have hB2 := hB1.chg x2 (by simpa using hgb')
      have x3 := x1'.trans (x2.mono (by simp))
      have hof3 : ∀ S, (∀ q, q ∈ S → w0.heap.size ≤ q) → Off v3 S := fun S hS => o2 _ (hof1 S hS)
      simp only [List.drop_succ_cons, List.drop_zero]
      go_wp2_with fail
      have hgw : g < w.heap.size := by omega
      have hxw : Ext w0 W := hx0.then_ x3 (fun q hq => by
        simp at hq
        rcases hq with h | h
        · omega
        · exact hbn q (by simp [h]))
      have x4 : Chg [g] w W := x3.lessS (fun q hq => by
        simp at hq
        rcases hq with h | h
        · exact .inl (by simp [h])
        · exact .inr (by have := hz.size; omega))
      refine (times2_b g 77 (.pointer (some ⟨gx, 0, none⟩)) (.pointer (some ⟨gb, 0, none⟩)) (fun k y W => RdD w0 w g gx gb M a b k y W) (fun y => y.2.2) (fun y => (y.1 ++ [(pdone y.2).1], (pdone y.2).2)) kn ([], s3) W ⟨v3, none, 0, h3, hX2, hB2, Own.nil _ _ _ _ _, hof3, hxw, x4, by simp; omega⟩
        (hide (fun k y W hI => by
          obtain ⟨v5, _, _, k1, -⟩ := hI
          exact (k1.blk.cell 1).trans rfl)) (fun _ => by kernel_rfl) (hide (fun k y W _ hI => ssess1_b w0 w g gx gb M a b k y.1 y.2 W hg hgw (by have := hz.size; omega) (by omega) hgxb hI)) (by omega)).mono ?_
      rintro e W2 ⟨rfl, kk, hI⟩
      rw [titer_list] at hI
      simp only [List.nil_append, HT.out] at hI
      obtain ⟨v4, A4, c4, h4, hX4, hB4, hown4, hof4, hx4, hc4, hl4⟩ := hI
      simp only at h4 hX4 hown4 hl4
      clear hX2 hB2 h3 hX1' hB1 h1 x1 x2 x3 x4 hxw hcx x1'
      go_upto_region 3 with fail
      have hF : Blk W2 g 77 #[v4, .int .i64 s4.2, .int .u64 now, .int .u64 count, .slice Al L.length cl, .slice A l.length c] := by
        have := h4.blk
        rw [HM.out] at this
        exact this
      have hown5 := hown.chg hc4 (fun q hq _ => .inl (List.mem_singleton.1 hq))
      have hlk5 := hlk.chg hc4 (fun q hq _ => List.mem_singleton.1 hq)
      obtain ⟨gl, hgl_⟩ : ∃ g_, W2.heap.size = g_ := ⟨_, rfl⟩
      have hgg : g < gl := by rw [← hgl_]; exact hF.lt
      have hd1 : Ext W2 W2.drew := (Ext.rfl' W2).drew'
      have hgd : W2.drew.heap.size = gl := hgl_
      have hXl : ∀ j, (j = g ∨ (Value.slice Al L.length cl).ownBlock = some j ∨ j < w0.heap.size) ∨ (Value.slice A l.length c).ownBlock = some j → j < w.heap.size := fun j hj => by
        rcases hj with (h | h | h) | h
        · omega
        · exact (hlk.own j h).2.1
        · have := hx0.size; omega
        · exact (hown.own j h).2.1
      have hsz : w.heap.size ≤ gl := by have := hc4.size; omega
      have hlit : Enc.Sl seE (W2.drew.alloc (.cells #[.int .i64 a, .int .u64 b, .slice A4 dl.length c4] 56)) (fun j => (j = g ∨ (Value.slice Al L.length cl).ownBlock = some j ∨ j < w0.heap.size) ∨ (Value.slice A l.length c).ownBlock = some j) (.slice (some ⟨gl, 0, none⟩) 1 1) [⟨a, b, dl⟩] :=
        Sl.one (E := seE) 56 (cs := [.int .i64 a, .int .u64 b, .slice A4 dl.length c4]) (w := W2.drew) (se_rep.2 ⟨_, rfl, ⟨by simp only; omega, by simp only; omega⟩, hb, ((hown4.mono (fun q _ hq => .inl (hXl q hq))).sl).ext hd1⟩) gl hgd (fun h => by have := hXl _ h; omega)
      have hge : ∀ j, (Value.slice A l.length c).ownBlock = some j → j ≠ g := fun j h e => (hown5.own j h).2.2 (.inl e)
      have hxa : Ext W2 (W2.drew.alloc (.cells #[.int .i64 a, .int .u64 b, .slice A4 dl.length c4] 56)) := hd1.alloc' _
      have d5 := (hF.cell 5).trans rfl
      have f5 := hF.frozen 5
      have d0 := (hB4.cell 0).trans rfl
      have b0 := (hX4.cell 0).trans rfl
      have b1 := (hX4.cell 1).trans rfl
      have b2 := (hX4.cell 2).trans rfl
      have q5 := fun o1 => ((hF.drew.alloc o1).cell 5).trans rfl
      have q0 := fun o1 => ((hB4.drew.alloc o1).cell 0).trans rfl
      have q5' := fun o1 => ((hF.alloc o1).cell 5).trans rfl
      have q0' := fun o1 => ((hB4.alloc o1).cell 0).trans rfl
      go_region_law (refine step_ownO elt_se_ 26 Tryz.underlying26 rfl (.tmp 27) (.tmp 29) rfl (hown5.ext hxa) (by simp [Act.eval, Act.put]) (hx4.trans' hxa) (a := ⟨a, b, dl⟩) (y := .slice (some ⟨gl, 0, none⟩) 1 1) (by simp [Act.eval, Act.put]) hlit (fun j hj => Nat.lt_of_lt_of_le (Nat.lt_of_lt_of_le (hXl j (.inl hj)) hc4.size) hxa.size) (by omega) (by omega) ?_; intro l1 A3 c3 w2 hl1 hown1 hx2 hc2 hob2; have hB2 := Blk.chg (hF.ext hxa) hc2 (fun hm => by simp at hm; exact hge g hm rfl); have e0 : w2.cell? ⟨gb, 0, none⟩ = some (.pointer (some ⟨g, 0, none⟩)) := ((Blk.chg (hB4.ext hxa) hc2 (fun hm => by have := hXl gb (.inr (by simpa using hm)); omega)).cell 0).trans rfl; have e4 : w2.cell? ⟨g, 5, none⟩ = some (.slice A l.length c) := (hB2.cell 5).trans rfl; have ef4 : w2.frozen? ⟨g, 5, none⟩ = false := hB2.frozen 5)
      all_goals
        go_end0
        have hcg : Chg [g] w2 (w2.setCell ⟨g, 5, none⟩ (.slice A3 l1.length c3)) := (Chg.refl _ _).set (by simp) _
        have hE : l1 = l ++ [⟨a, b, dl⟩] := hl1.out
        have hbs : Bs w2 v4 s4.1 := (h4.bs.ext hxa).chg hc2 (hof4 _ (fun k hk => (hown5.own k (by simpa using hk)).1))
        have hlk6 := ((hlk5.ext hxa).chgF hc2 (fun k h1 h2 => (hown5.own k (by simpa using h2)).2.2 (.inr (.inl h1))) ln_any).chg hcg (fun k hk _ => List.mem_singleton.1 hk)
        simp only
        rw [← hE]
        exact ⟨trivial, v4, A3, c3, ⟨hB2.set_ 5 _, hbs.chg hcg h4.off, h4.off, h4.len⟩, hlk6, hown1.chg hcg (fun k hk _ => .inl (List.mem_singleton.1 hk)), hof4, hx2.then_ hcg (by simpa using hg), by rw [hE]; simp only [List.length_append, List.length_singleton]; omega⟩
end Go.Proofs.YtamimdlaclglkaaGreat
namespace Go.Proofs.YtamimdlaclglkaaGreat
set_option linter.unusedVariables false
set_option linter.unusedSimpArgs false
set_option linter.unnecessarySimpa false
set_option maxRecDepth 100000
open Go.RowKit
theorem flat_set_cell (u : Value) : ∀ (css : List (List Value)) (s i j : Nat) (cs : List Value), (∀ c ∈ css, c.length = s) → j < s → css[i]? = some cs → (css.set i (cs.set j u)).flatten = css.flatten.set (i * s + j) u
  | [], s, i, j, cs, _, _, h => by simp at h
  | c :: css, s, 0, j, cs, hl, hj, h => by
    obtain rfl : c = cs := by simpa using h
    rw [List.set_cons_zero, List.flatten_cons, List.flatten_cons, Nat.zero_mul, Nat.zero_add, List.set_append, if_pos (by rw [hl c List.mem_cons_self]; exact hj)]
  | c :: css, s, i + 1, j, cs, hl, hj, h => by
    have hc := hl c List.mem_cons_self
    rw [List.set_cons_succ, List.flatten_cons, List.flatten_cons, flat_set_cell u css s i j cs (fun d hd => hl d (List.mem_cons_of_mem _ hd)) hj (by simpa using h), List.set_append, if_neg (by rw [hc, Nat.succ_mul]; omega), hc]
    congr 2
    rw [Nat.succ_mul]; omega
section
variable {α : Type} {T : TypeId} {E : Enc α} {w0 w w' : World} {X : Avoid} {g cap : Nat} {l : List α}
theorem Own.openG {v : Value} (h : Own T E w0 w X v l) (hn : 0 < l.length) : ∃ g cap cur css, v = .slice (some ⟨g, 0, none⟩) l.length cap ∧ Blk w g T cur ∧ w0.heap.size ≤ g ∧ l.length ≤ cap ∧ cap ≤ maxLen ∧
    cur.size = cap * E.size ∧ cur.toList.take (l.length * E.size) = css.flatten ∧ Enc.Each E w (fun k => X k ∨ k = g) css l ∧ ¬ X g := by
  obtain ⟨css, ⟨_, h1⟩, h2, h3⟩ := h
  rcases h1 with ⟨_, h0⟩ | ⟨g, cap, cur, rfl, hb, hg, hc, hm, hs, ht⟩
  · omega
  · exact ⟨g, cap, cur, css, rfl, hg, hb, hc, hm, hs, ht, h2.mono fun k _ hk => hk.elim .inl fun h => .inr (by rw [h]; rfl), h3 g rfl⟩
theorem Own.blkG (h : Own T E w0 w X (.slice (some ⟨g, 0, none⟩) l.length cap) l) (hn : 0 < l.length) : ∃ cur css, Blk w g T cur ∧ w0.heap.size ≤ g ∧ l.length ≤ cap ∧ cap ≤ maxLen ∧ cur.size = cap * E.size ∧ cur.toList.take (l.length * E.size) = css.flatten ∧ Enc.Each E w (fun k => X k ∨ k = g) css l ∧ ¬ X g := by
  obtain ⟨g', cap', cur, css, he, h1, h2, h3, h4, h5, h6, h7, h8⟩ := h.openG hn
  simp only [Value.slice.injEq, Option.some.injEq, Addr.mk.injEq, and_true, true_and] at he
  obtain ⟨rfl, rfl⟩ := he
  exact ⟨cur, css, h1, h2, h3, h4, h5, h6, h7, h8⟩
theorem Own.cellG (h : Own T E w0 w X (.slice (some ⟨g, 0, none⟩) l.length cap) l) {i j : Nat} (hi : i < l.length) (hj : j < E.size) {a : α} {u : Value} (hr : ∀ cs, E.rep w (fun k => X k ∨ k = g) cs l[i] → E.rep w (fun k => X k ∨ k = g) (cs.set j u) a) :
    Own T E w0 (w.setCell ⟨g, i * E.size + j, none⟩ u) X (.slice (some ⟨g, 0, none⟩) l.length cap) (l.set i a) := by
  obtain ⟨cur, css, h1, h2, h3, h4, h5, h6, h7, h8⟩ := h.blkG (by omega)
  have hic : i < css.length := by rw [h7.1]; exact hi
  have hcs : css[i]? = some css[i] := List.getElem?_eq_getElem hic
  have hre := hr _ (h7.2 i _ _ hcs (List.getElem?_eq_getElem hi))
  have hcg : Chg [g] w (w.setCell ⟨g, i * E.size + j, none⟩ u) := (Chg.refl _ _).set (by simp) _
  have hfl : css.flatten.length = l.length * E.size := h7.len
  have hB := h1.set_ (i * E.size + j) u
  have hfs := flat_set_cell u css E.size i j css[i] h7.lens hj hcs
  have hE : Enc.Each E w (fun k => X k ∨ k = g) (css.set i (css[i].set j u)) (l.set i a) := by
    refine ⟨by simp [h7.1], fun k c b e1 e2 => ?_⟩
    rw [List.getElem?_set] at e1 e2
    by_cases hki : i = k
    · rw [if_pos hki] at e1 e2
      rw [if_pos hic] at e1
      rw [if_pos hi] at e2
      obtain rfl := Option.some.inj e1
      obtain rfl := Option.some.inj e2
      exact hre
    · rw [if_neg hki] at e1 e2
      exact h7.2 k c b e1 e2
  refine ⟨css.set i (css[i].set j u), ⟨?_, .inr ⟨g, cap, _, by rw [List.length_set], h2, hB, by rw [List.length_set]; exact h3, h4, by rw [Array.size_setIfInBounds]; exact h5, ?_⟩⟩, (hE.mono fun k _ hk => ?_).chg hcg (fun k hk _ => .inr ?_), fun k hk => ?_⟩
  · rw [hfs, List.length_set, hfl, List.length_set]
  · rw [hfs, ← h6, List.length_set, Array.toList_setIfInBounds, List.take_set]
  · exact hk.elim .inl fun h => .inr (Option.some.inj h).symm
  · obtain rfl := List.mem_singleton.1 hk
    rfl
  · obtain rfl := Option.some.inj hk
    exact h8
theorem own_cellsG {k : Nat} (h : Own T E w0 w X (.slice (some ⟨g, 0, none⟩) l.length cap) l) (hk : k < l.length) : ∃ a cs, Hid (l[k]? = some a) ∧ g < w.heap.size ∧ E.rep w (fun j => X j ∨ j = g) cs a ∧ ∀ j u, cs[j]? = some u → w.cell? ⟨g, k * E.size + j, none⟩ = some u := by
  obtain ⟨cur, css, h1, h2, h3, h4, h5, h6, h7, h8⟩ := h.blkG (by omega)
  have hkc : k < css.length := by rw [h7.1]; exact hk
  have hcs : css[k]? = some css[k] := List.getElem?_eq_getElem hkc
  refine ⟨l[k], css[k], hide (List.getElem?_eq_getElem hk), h1.lt, h7.2 k _ _ hcs (List.getElem?_eq_getElem hk), fun j u hu => ?_⟩
  have h9 := Enc.flatten_at css k css[k] h7.lens hcs j u hu
  rw [← h6, List.getElem?_take] at h9
  split at h9
  · rw [h1.cell, ← Array.getElem?_toList]; exact h9
  · cases h9
theorem set_sameG (l : List α) (k : Nat) (a : α) (h : l[k]? = some a) : l.set k a = l := by
  obtain ⟨h1, h2⟩ := List.getElem?_eq_some_iff.1 h
  rw [← h2, List.set_getElem_self]
end
end Go.Proofs.YtamimdlaclglkaaGreat
