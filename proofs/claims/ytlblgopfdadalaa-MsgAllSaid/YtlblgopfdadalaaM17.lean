/- A part of the proof of 'MsgAll'. -/
import Derived.Test.YtlblgopfdadalaaM16
namespace Go.Proofs.Ytlblgopfdadalaa
set_option linter.unusedVariables false
set_option linter.unusedSimpArgs false
set_option linter.unnecessarySimpa false
set_option maxRecDepth 100000
open Go.RowKit
theorem pform_full (n : Nat) (hn : n ≤ 8) (s s' : Rdr) : pform (decide ((pnum n s).1 < 0 ∨ (18446744073709551615 : Int) < (pnum n s).1)) s' = s' := by
  have h := pnum_rng n s
  have h2 : (256 : Int) ^ n ≤ 18446744073709551616 := by
    have : (256 : Nat) ^ n ≤ 256 ^ 8 := Nat.pow_le_pow_right (by decide) hn
    have e : ((256 ^ n : Nat) : Int) = 256 ^ n := by simp
    omega
  rw [decide_eq_false (by omega), pform_no]
theorem mnumF_b (g : Nat) (v : Value) (s : Rdr) (M : List Value) (n : Nat) (w : World) (h : MAt w g v s M) (hn : n ≤ 8) :
    Calls Try.prog 72 #[.pointer (some ⟨g, 0, none⟩), .int .i64 n, .int .u64 0, .int .u64 18446744073709551615] w fun e w' =>
      e = .returned (.int .u64 (pnum n s).1) ∧ MTo w w' g v (pnum n s).2 M := by
  refine (mnum_b g v s M n 0 18446744073709551615 w h hn).mono ?_
  rintro e w' ⟨h1, h2⟩
  rw [pform_full n hn] at h2
  exact ⟨h1, h2⟩
theorem mplace_b (g : Nat) (v : Value) (s : Rdr) (M : List Value) (w : World) (h : MAt w g v s M) :
    Calls Try.prog 73 #[.pointer (some ⟨g, 0, none⟩)] w fun e w' => e = .returned (.int .i64 (Cod.place.P s).1) ∧ MTo w w' g v (Cod.place.P s).2 M := by
  have hp := pnum_rng 2 s
  have e2 : (256 : Int) ^ 2 = 65536 := rfl
  rw [e2] at hp
  obtain ⟨V, s1, hV⟩ : ∃ V s1, pnum 2 s = (V, s1) := ⟨_, _, rfl⟩
  have HC := hide (mnumF_b g v s M 2 w h (by decide))
  rw [hV] at HC hp
  have HP : Hid (Cod.place.P s = (sign2 V, s1)) := by
    show (sign2 (pnum 2 s).1, (pnum 2 s).2) = _
    rw [hV]
  rw [HP.out]
  simp only at hp HC
  have w1 : IntKind.i16.wrap V = sign2 V := by
    have e : V % (2 ^ 16 : Int) = V := Int.emod_eq_of_lt hp.1 (by have := hp.2; show V < 65536; omega)
    unfold IntKind.wrap sign2
    show (if (true && decide (V % (2 ^ 16 : Int) ≥ (2 ^ 15 : Int))) = true then V % (2 ^ 16 : Int) - (2 ^ 16 : Int) else V % (2 ^ 16 : Int)) = _
    rw [e]
    simp
  have w2 : IntKind.i64.wrap (sign2 V) = sign2 V := by
    rw [IntKind.wrap_i64]
    unfold sign2
    split <;> omega
  go_enter Try.func73, Try.ntmps73
  go_wp2_with fail
  refine HC.out.mono ?_
  rintro e W1 ⟨rfl, r1⟩
  go_wp2_with fail
  go_ret
  exact ⟨rfl, r1⟩
/-- block g, and all that was there -/
def XA (g : Nat) (w : World) : Avoid := fun k => k = g ∨ k < w.heap.size
/-- while an entry is read: the reader, and the entries so far -/
def RE (g : Nat) (v0 : Value) (w0 : World) (M : List Value) (v : Value) (l : List En) (S : Nat → Rdr) (i : Nat) (W : World) : Prop :=
  ∃ v', MAt W g v' (S i) M ∧ Own 74 enE w0 W (XA g w0) v l ∧ Chg [g] w0 W ∧ ∀ S, Off v0 S → Off v' S
theorem MAt.chg {S : List Nat} {w w' : World} {g : Nat} {v : Value} {s : Rdr} {M : List Value} (h : MAt w g v s M) (hx : Chg S w w') (hg : g ∉ S) (hv : Off v S) : MAt w' g v s M :=
  ⟨h.blk.chg hx hg, h.bs.chg hx hv, h.off, h.len⟩
theorem RE.ext {g : Nat} {v0 : Value} {w0 : World} {M : List Value} {v : Value} {l : List En} {S : Nat → Rdr} {i : Nat} {W W' : World} (h : RE g v0 w0 M v l S i W) (hx : Ext W W') : RE g v0 w0 M v l S i W' := by
  obtain ⟨v', h1, h2, h3, h4⟩ := h
  exact ⟨v', h1.ext hx, h2.ext hx, h3.trans (hx.chg [g]), h4⟩
set_option maxHeartbeats 3200000 in
theorem mentries_b (g : Nat) (v : Value) (s : Rdr) (M : List Value) (w : World) (h : MAt w g v s M) (hM : M[6]? = some (.slice none 0 0)) :
    Calls Try.prog 74 #[.pointer (some ⟨g, 0, none⟩)] w fun e w' => e = .returned (.tuple #[]) ∧
      ∃ ve, Enc.Sl enE w' (XA g w) ve ((Cod.list Cod.ent).P s).1 ∧ MTo w w' g v ((Cod.list Cod.ent).P s).2 (M.set 6 ve) := by
  have hp := pnum_rng 2 s
  have e2 : (256 : Int) ^ 2 = 65536 := rfl
  rw [e2] at hp
  obtain ⟨V, s1, hV⟩ : ∃ V s1, pnum 2 s = (V, s1) := ⟨_, _, rfl⟩
  have HC := hide (mnumF_b g v s M 2 w h (by decide))
  rw [hV] at HC hp
  have HP : Hid ((Cod.list Cod.ent).P s = Cod.rep Cod.ent V.toNat s1) := by
    show Cod.rep Cod.ent (pnum 2 s).1.toNat (pnum 2 s).2 = _
    rw [hV]
  rw [HP.out]
  simp only at hp HC
  go_enter Try.func74, Try.ntmps74
  go_wp2_with fail
  refine HC.out.mono ?_
  rintro e W1 ⟨rfl, v1, r1, ch1, of1⟩
  have hgw : g < w.heap.size := h.blk.lt
  go_wp2_with fail
  go_loopw [2] (fun v2 wr => ∃ (k : Nat) (l : List En) (A : Option Addr) (c : Nat) (s2 : Rdr) (v2' : Value), v2 = .int .u64 k ∧ k + l.length ≤ 65535 ∧ MAt wr g v2' s2 (M.set 6 (.slice A l.length c)) ∧ Own 74 enE w wr (XA g w) (.slice A l.length c) l ∧
    Hid (Cod.rep Cod.ent V.toNat s1 = (l ++ (Cod.rep Cod.ent k s2).1, (Cod.rep Cod.ent k s2).2)) ∧ Chg [g] w wr ∧ ∀ S, Off v S → Off v2' S) (fun v2 _ => (intOf v2).toNat)
  case atStart =>
    refine ⟨V.toNat, [], none, 0, s1, v1, by rw [Int.toNat_of_nonneg hp.1], by simp; omega, ?_, Own.nil _ _ _ _ _, hide (by simp), ch1, of1⟩
    have e6 : M.set 6 (.slice none 0 0) = M := by
      rw [List.getElem?_eq_some_iff] at hM
      obtain ⟨h1, h2⟩ := hM
      rw [← h2]
      exact List.set_getElem_self h1
    show MAt W1 g v1 s1 (M.set 6 (.slice none 0 0))
    rw [e6]
    exact r1
  case round =>
    clear r1 ch1 of1
    obtain ⟨k, l, A, c, s2, v2, rfl, hkl, hr, hown, HR, hch, hof⟩ := hrel
    have hlM : 6 < M.length := by rw [List.getElem?_eq_some_iff] at hM; exact hM.1
    have q1 : wr.cell? ⟨g, 1, none⟩ = some (.int .i64 s2.2) := hr.c1
    obtain ⟨b2, e2⟩ := s2
    simp only at q1
    rcases Nat.eq_zero_or_pos k with rfl | hkp
    · go_wp2_with fail
      go_end0
      refine ⟨rfl, .slice A l.length c, ?_, ?_⟩
      · rw [HR.out]
        simpa [Cod.rep] using hown.sl
      · rw [HR.out]
        exact ⟨v2, hr, hch, hof⟩
    · by_cases he : e2 = 0
      · subst he
        have hkp' : (0 : Int) < k := by omega
        obtain ⟨k, rfl⟩ : ∃ k', k = k' + 1 := ⟨k - 1, by omega⟩
        obtain ⟨t, s3, hT⟩ : ∃ t s3, pnum 8 (b2, 0) = (t, s3) := ⟨_, _, rfl⟩
        obtain ⟨d, s4, hD⟩ : ∃ d s4, ptext s3 = (d, s4) := ⟨_, _, rfl⟩
        have HN := hide (mnumF_b g v2 (b2, 0) _ 8 wr hr (by decide))
        have htr := pnum_rng 8 (b2, 0)
        rw [hT] at HN htr
        have e8 : (256 : Int) ^ 8 = 18446744073709551616 := rfl
        rw [e8] at htr
        simp only at HN htr
        have HR2 : Hid (Cod.rep Cod.ent V.toNat s1 = ((l ++ [⟨t, d⟩]) ++ (Cod.rep Cod.ent k s4).1, (Cod.rep Cod.ent k s4).2)) := hide (by
          have e : Cod.rep Cod.ent (k + 1) (b2, 0) = (⟨t, d⟩ :: (Cod.rep Cod.ent k s4).1, (Cod.rep Cod.ent k s4).2) := by
            have e5 : Cod.ent.P (b2, 0) = (⟨t, d⟩, s4) := by
              show ((⟨(pnum 8 (b2, 0)).1, (ptext (pnum 8 (b2, 0)).2).1⟩ : En), (ptext (pnum 8 (b2, 0)).2).2) = _
              rw [hT]
              simp only
              rw [hD]
            rw [Cod.rep, if_pos rfl, e5]
          rw [HR.out, e]
          simp)
        have HD := hide hD
        have HTR := hide htr
        clear hT hD HR htr
        go_upto_region 3 with fail
        go_wp2_with fail
        refine HN.out.mono ?_
        rintro e W3 ⟨rfl, v3, r3, ch3, of3⟩
        have hown3 := hown.chg ch3 (fun k hk _ => .inl (by simpa using hk))
        have hch3 := hch.trans ch3
        have hof3 : ∀ S, Off v S → Off v3 S := fun S hS => of3 S (hof S hS)
        have hol : ∀ k, (Value.slice A l.length c).ownBlock = some k → w.heap.size ≤ k ∧ k < W3.heap.size := hown3.lt
        clear ch3 of3 hr hown hch hof q1
        go_upto_region 4 with fail
        refine Rg.regionV Try.checked.mixed 41 13 0 24 _ _ (by rfl) (by rfl) (by kernel_rfl) [
          (false, (fun x_ _ => x_ = .pointer (some ⟨g, 0, none⟩))),
          (false, (fun x_ _ => x_ = .pointer (some ⟨g, 0, none⟩))),
          (false, (fun x_ _ => x_ = .pointer (some ⟨g, 0, none⟩))),
          (false, (fun x_ _ => x_ = .pointer (some ⟨g, 2, none⟩))),
          (false, (fun x_ _ => x_ = .pointer (some ⟨g, 8, none⟩))),
          (false, (fun x_ _ => x_ = .slice A l.length c)),
          (false, (fun x_ _ => x_ = .int .u64 t)),
          (false, (fun x_ _ => x_ = .pointer (some ⟨g, 0, none⟩))),
          (false, (fun x_ _ => x_ = .pointer (some ⟨g, 0, none⟩))),
          (false, (fun x_ _ => x_ = .pointer (some ⟨g, 0, none⟩))),
          (true, (fun v W => ∃ (y : Option Addr) (cy : Nat), v = .slice y d.length cy ∧ Enc.BsX W (fun k => XA g w k ∨ (Value.slice A l.length c).ownBlock = some k) v d)),
          (false, (fun v W => ∃ y, v = .agg #[.int .u64 t, y] ∧ Enc.BsX W (fun k => XA g w k ∨ (Value.slice A l.length c).ownBlock = some k) y d)),
          (false, (fun v W => Enc.Sl enE W (fun k => XA g w k ∨ (Value.slice A l.length c).ownBlock = some k) v [(⟨t, d⟩ : En)]))] (by kernel_rfl) (by kernel_rfl) (RE g v w (M.set 6 (.slice A l.length c)) (.slice A l.length c) l (fun i => match i with | 0 => s3 | _ => s4)) (fun W W2 => Chg [g] W W2) rfl rfl rfl
          ?st ⟨v3, r3.ext ((Ext.rfl' _).drew'), hown3.ext ((Ext.rfl' _).drew'), hch3.drew, hof3⟩ ?ob ?en ?en2
        case st => exact ⟨fun _ _ _ h _ => h, fun _ _ _ h _ => h, fun _ _ _ h _ => h, fun _ _ _ h _ => h, fun _ _ _ h _ => h, fun _ _ _ h _ => h, fun _ _ _ h _ => h, fun _ _ _ h _ => h, fun _ _ _ h _ => h, fun _ _ _ h _ => h, fun _ _ _ h hx => by obtain ⟨y, cy, h1, h2⟩ := h; exact ⟨y, cy, h1, h2.chg hx fun k hk _ => .inl (.inl (by simpa using hk))⟩, fun _ _ _ h hx => by obtain ⟨y, h1, h2⟩ := h; exact ⟨y, h1, h2.chg hx fun k hk _ => .inl (.inl (by simpa using hk))⟩, fun _ _ _ h hx => by have h9 : Enc.Sl enE _ (fun k => XA g w k ∨ (Value.slice A l.length c).ownBlock = some k) _ [(⟨t, d⟩ : En)] := h; exact h9.chg hx fun k hk _ => .inl (.inl (by simpa using hk)), trivial⟩
        case ob =>
          refine ⟨fun i => Rg.at_runW [0] rfl ?_, ?_⟩
          · intro ρ W hR ⟨q0, _⟩
            replace q0 : ρ 0 = .pointer (some ⟨g, 0, none⟩) := q0
            refine ⟨rfl, ?_⟩
            exact Rg.run_ok (v := .pointer (some ⟨g, 0, none⟩)) (by simp [execOp, Rg.ev, go_sem, q0]) ⟨rfl, hR, Chg.refl _ _⟩
          refine ⟨fun i => Rg.at_runW [0] rfl ?_, ?_⟩
          · intro ρ W hR ⟨q0, _⟩
            replace q0 : ρ 0 = .pointer (some ⟨g, 0, none⟩) := q0
            refine ⟨rfl, ?_⟩
            exact Rg.run_ok (v := .pointer (some ⟨g, 0, none⟩)) (by simp [execOp, Rg.ev, go_sem, q0]) ⟨rfl, hR, Chg.refl _ _⟩
          refine ⟨fun i => Rg.at_runW [25] rfl ?_, ?_⟩
          · intro ρ W hR ⟨q25, _⟩
            replace q25 : ρ 25 = .pointer (some ⟨g, 0, none⟩) := q25
            refine ⟨rfl, ?_⟩
            exact Rg.run_ok (v := .pointer (some ⟨g, 0, none⟩)) (by simp [execOp, Rg.ev, go_sem, q25]) ⟨rfl, hR, Chg.refl _ _⟩
          refine ⟨fun i => Rg.at_runW [26] rfl ?_, ?_⟩
          · intro ρ W hR ⟨q26, _⟩
            replace q26 : ρ 26 = .pointer (some ⟨g, 0, none⟩) := q26
            refine ⟨rfl, ?_⟩
            exact Rg.run_ok (v := .pointer (some ⟨g, 2, none⟩)) (by simp [execOp, Rg.ev, go_sem, q26]) ⟨rfl, hR, Chg.refl _ _⟩
          refine ⟨fun i => Rg.at_runW [27] rfl ?_, ?_⟩
          · intro ρ W hR ⟨q27, _⟩
            replace q27 : ρ 27 = .pointer (some ⟨g, 2, none⟩) := q27
            refine ⟨rfl, ?_⟩
            exact Rg.run_ok (v := .pointer (some ⟨g, 8, none⟩)) (by simp [execOp, Rg.ev, go_sem, q27]) ⟨rfl, hR, Chg.refl _ _⟩
          refine ⟨fun i => Rg.at_runW [28] rfl ?_, ?_⟩
          · intro ρ W hR ⟨q28, _⟩
            replace q28 : ρ 28 = .pointer (some ⟨g, 8, none⟩) := q28
            refine ⟨rfl, ?_⟩
            obtain ⟨v', hm, _⟩ := id hR
            have c_ : W.cell? ⟨g, 8, none⟩ = some (.slice A l.length c) := by rw [hm.cell 6, List.getElem?_set_self hlM]
            exact Rg.run_ok (v := .slice A l.length c) (by simp [execOp, Rg.ev, go_sem, q28, c_]) ⟨rfl, hR, Chg.refl _ _⟩
          refine ⟨fun i => Rg.at_runW [3] rfl ?_, ?_⟩
          · intro ρ W hR ⟨q3, _⟩
            replace q3 : ρ 3 = .int .u64 t := q3
            refine ⟨rfl, ?_⟩
            exact Rg.run_ok (v := .int .u64 t) (by simp [execOp, Rg.ev, go_sem, q3]) ⟨rfl, hR, Chg.refl _ _⟩
          refine ⟨fun i => Rg.at_runW [0] rfl ?_, ?_⟩
          · intro ρ W hR ⟨q0, _⟩
            replace q0 : ρ 0 = .pointer (some ⟨g, 0, none⟩) := q0
            refine ⟨rfl, ?_⟩
            exact Rg.run_ok (v := .pointer (some ⟨g, 0, none⟩)) (by simp [execOp, Rg.ev, go_sem, q0]) ⟨rfl, hR, Chg.refl _ _⟩
          refine ⟨fun i => Rg.at_runW [31] rfl ?_, ?_⟩
          · intro ρ W hR ⟨q31, _⟩
            replace q31 : ρ 31 = .pointer (some ⟨g, 0, none⟩) := q31
            refine ⟨rfl, ?_⟩
            exact Rg.run_ok (v := .pointer (some ⟨g, 0, none⟩)) (by simp [execOp, Rg.ev, go_sem, q31]) ⟨rfl, hR, Chg.refl _ _⟩
          refine ⟨fun i => Rg.at_runW [32] rfl ?_, ?_⟩
          · intro ρ W hR ⟨q32, _⟩
            replace q32 : ρ 32 = .pointer (some ⟨g, 0, none⟩) := q32
            refine ⟨rfl, ?_⟩
            exact Rg.run_ok (v := .pointer (some ⟨g, 0, none⟩)) (by simp [execOp, Rg.ev, go_sem, q32]) ⟨rfl, hR, Chg.refl _ _⟩
          refine ⟨Rg.at_runW [33] rfl ?_, ?_⟩
          · intro ρ W hR ⟨q33, _⟩
            replace q33 : ρ 33 = .pointer (some ⟨g, 0, none⟩) := q33
            refine ⟨rfl, ?_⟩
            obtain ⟨v', hm, ho, hc, hof⟩ := id hR
            refine Rg.run_enter (by simp [execOp, Rg.ev, go_sem, q33]; exact ⟨⟨rfl, rfl⟩, rfl⟩) ?_
            refine (mbytes_b g v' s3 _ W hm).mono ?_
            rintro e w2 ⟨m, Am, cm, hm9, rfl, hz, v4, hm4, hc4, of4⟩
            have e9 : m = d := by rw [hm9.out, HD.out]
            subst e9
            rw [HD.out] at hm4
            exact ⟨_, rfl, ⟨Am, cm, rfl, Enc.BsX.nw hz fun k hk => by
              rcases hk with (hk | hk) | hk
              · have := hm.blk.lt; omega
              · have := hc.size; omega
              · exact (ho.lt _ hk).2⟩, ⟨v4, hm4, ho.chg hc4 (fun k hk _ => .inl (by simpa using hk)), hc.trans hc4, fun S hS => of4 S (hof S hS)⟩, hc4⟩
          refine ⟨fun i => Rg.at_runW [30, 34] rfl ?_, ?_⟩
          · intro ρ W hR ⟨q30, q34, _⟩
            replace q30 : ρ 30 = .int .u64 t := q30
            replace q34 : (fun v W => ∃ (y : Option Addr) (cy : Nat), v = .slice y d.length cy ∧ Enc.BsX W (fun k => XA g w k ∨ (Value.slice A l.length c).ownBlock = some k) v d) (ρ 34) W := q34
            refine ⟨rfl, ?_⟩
            obtain ⟨y, cy, hy, hb⟩ := q34
            exact Rg.run_ok (v := .agg #[.int .u64 t, .slice y d.length cy]) (by simp [execOp, Rg.ev, go_sem, q30, hy]) ⟨⟨_, rfl, by rw [← hy]; exact hb⟩, hR, Chg.refl _ _⟩
          refine ⟨fun i => Rg.at_runW [35] rfl ?_, ?_⟩
          · intro ρ W hR ⟨q35, _⟩
            replace q35 : (fun v W => ∃ y, v = .agg #[.int .u64 t, y] ∧ Enc.BsX W (fun k => XA g w k ∨ (Value.slice A l.length c).ownBlock = some k) y d) (ρ 35) W := q35
            refine ⟨rfl, ?_⟩
            obtain ⟨y, hy, hb⟩ := q35
            obtain ⟨v', hm, ho, hc, hof⟩ := id hR
            refine Rg.run_ok (v := .slice (some ⟨W.heap.size, 0, none⟩) 1 1) (W' := W.alloc (.cells #[.int .u64 t, y] 74)) (by simp [execOp, Rg.ev, go_sem, hy]) ⟨?_, hR.ext ((Ext.rfl' W).alloc' _), ((Ext.rfl' W).alloc' _).chg [g]⟩
            have ht := HTR.out
            exact Sl.one 74 (E := enE) (cs := [.int .u64 t, y]) (en_rep.2 ⟨y, rfl, ⟨by show 0 ≤ t; omega, by show t ≤ _; omega⟩, hb⟩) W.heap.size rfl (by
              rintro ((h | h) | h)
              · have := hm.blk.lt; omega
              · have := hc.size; omega
              · have := (ho.lt _ h).2; omega)
          trivial
        case en =>
          intro tm W hR hsz hk
          rw [Rg.fin_eq (ds := [24, 25, 26, 27, 28, 29, 30, 31, 32, 33, 34, 35, 36]) rfl rfl rfl hsz hk]
          have k24 : tm.getD 24 undef = .pointer (some ⟨g, 0, none⟩) := hk 24
          have k25 : tm.getD 25 undef = .pointer (some ⟨g, 0, none⟩) := hk 25
          have k26 : tm.getD 26 undef = .pointer (some ⟨g, 0, none⟩) := hk 26
          have k27 : tm.getD 27 undef = .pointer (some ⟨g, 2, none⟩) := hk 27
          have k28 : tm.getD 28 undef = .pointer (some ⟨g, 8, none⟩) := hk 28
          have k29 : tm.getD 29 undef = .slice A l.length c := hk 29
          have k30 : tm.getD 30 undef = .int .u64 t := hk 30
          have k31 : tm.getD 31 undef = .pointer (some ⟨g, 0, none⟩) := hk 31
          have k32 : tm.getD 32 undef = .pointer (some ⟨g, 0, none⟩) := hk 32
          have k33 : tm.getD 33 undef = .pointer (some ⟨g, 0, none⟩) := hk 33
          have k34 : (fun v W => ∃ (y : Option Addr) (cy : Nat), v = .slice y d.length cy ∧ Enc.BsX W (fun k => XA g w k ∨ (Value.slice A l.length c).ownBlock = some k) v d) (tm.getD 34 undef) W := hk 34
          have k35 : (fun v W => ∃ y, v = .agg #[.int .u64 t, y] ∧ Enc.BsX W (fun k => XA g w k ∨ (Value.slice A l.length c).ownBlock = some k) y d) (tm.getD 35 undef) W := hk 35
          have k36 : (fun v W => Enc.Sl enE W (fun k => XA g w k ∨ (Value.slice A l.length c).ownBlock = some k) v [(⟨t, d⟩ : En)]) (tm.getD 36 undef) W := hk 36
          clear hk hsz
          simp only [Rg.putAll, List.setIfInBounds_toArray, List.set_cons_zero, List.set_cons_succ, k24, k25, k26, k27, k28, k29, k30, k31, k32, k33]
          clear k24
          clear k25
          clear k26
          clear k27
          clear k28
          clear k29
          clear k30
          clear k31
          clear k32
          clear k33
          generalize tm.getD 34 undef = u34 at *
          generalize tm.getD 35 undef = u35 at *
          generalize tm.getD 36 undef = u36 at *
          obtain ⟨v4, r4, hown4, hch4, hof4⟩ := hR
          replace r4 : MAt W g v4 s4 (M.set 6 (.slice A l.length c)) := r4
          have hle : w.heap.size ≤ W.heap.size := hch4.size
          have hownC : Own 74 enE (cutW W w.heap.size) W (XA g w) (.slice A l.length c) l := hown4.base (by rw [cutW_size hle]; exact Nat.le_refl _)
          have hob : Off v4 (Value.slice A l.length c).ownBlock.toList := hof4 _ (h.bs.off fun k hk => by
            have := (hol k (by simpa using hk)).1
            omega)
          have hgo : g ∉ (Value.slice A l.length c).ownBlock.toList := fun hk => by
            have := (hol g (by simpa using hk)).1
            omega
          refine wpList_own elt_en 23 Try.underlying23 rfl _ _ rfl hownC rfl (cutW_ext hle) (m := [⟨t, d⟩]) (y := u36) rfl k36 (by have := r4.blk.lt; rintro (h | h) <;> omega) (by simp only [List.length_singleton]; omega) (by simp only [List.length_singleton]; omega) ?_
          intro l5 A5 c5 W5 hl5 hown5 hx5 hcc5
          have hr5 := r4.chg hcc5 hgo hob
          have hch5 := hch4.then_new hcc5 (fun k hk => (hol k (by simpa using hk)).1)
          have q8 : W5.cell? ⟨g, 8, none⟩ = some (.slice A l.length c) := by rw [hr5.cell 6, List.getElem?_set_self hlM]
          have f8 := hr5.blk.frozen 8
          have hl5n : Hid (l5.length = l.length + 1) := by unfold Hid; rw [hl5.out]; simp
          have hr6 := hr5.set 6 (.slice A5 l5.length c5)
          rw [List.set_set] at hr6
          have hown6 := (hown5.base (w0 := w) (by rw [cutW_size hle]; exact Nat.le_refl _)).chg ((Chg.refl [g] W5).set (p := ⟨g, 8, none⟩) (by simp) (.slice A5 l5.length c5)) (fun k hk _ => .inl (by simpa using hk))
          have hch6 := hch5.set (p := ⟨g, 8, none⟩) (by simp) (.slice A5 l5.length c5)
          clear hownC hcc5 hx5 hown5 k36 k35 k34
          go_wp2_with fail
          go_roundw
          case rel => exact ⟨k, l5, A5, c5, s4, v4, by go_num, by have := hl5n.out; omega, hr6, hown6, hide (by rw [HR2.out, hl5.out]), hch6, hof4⟩
          case measure => simp [intOf]
        case en2 =>
          intro tm W hR hsz hk
          rw [Rg.fin_eqX (ds := [24, 25, 26, 27, 28, 29, 30, 31, 32, 33, 34, 35, 36]) rfl (by decide) rfl rfl hsz hk]
          have k25 : tm.getD 25 undef = .pointer (some ⟨g, 0, none⟩) := hk 25
          have k26 : tm.getD 26 undef = .pointer (some ⟨g, 0, none⟩) := hk 26
          have k27 : tm.getD 27 undef = .pointer (some ⟨g, 2, none⟩) := hk 27
          have k28 : tm.getD 28 undef = .pointer (some ⟨g, 8, none⟩) := hk 28
          have k29 : tm.getD 29 undef = .slice A l.length c := hk 29
          have k30 : tm.getD 30 undef = .int .u64 t := hk 30
          have k31 : tm.getD 31 undef = .pointer (some ⟨g, 0, none⟩) := hk 31
          have k32 : tm.getD 32 undef = .pointer (some ⟨g, 0, none⟩) := hk 32
          have k33 : tm.getD 33 undef = .pointer (some ⟨g, 0, none⟩) := hk 33
          have k34 : (fun v W => ∃ (y : Option Addr) (cy : Nat), v = .slice y d.length cy ∧ Enc.BsX W (fun k => XA g w k ∨ (Value.slice A l.length c).ownBlock = some k) v d) (tm.getD 34 undef) W := hk 34
          have k35 : (fun v W => ∃ y, v = .agg #[.int .u64 t, y] ∧ Enc.BsX W (fun k => XA g w k ∨ (Value.slice A l.length c).ownBlock = some k) y d) (tm.getD 35 undef) W := hk 35
          have k36 : (fun v W => Enc.Sl enE W (fun k => XA g w k ∨ (Value.slice A l.length c).ownBlock = some k) v [(⟨t, d⟩ : En)]) (tm.getD 36 undef) W := hk 36
          clear hk hsz
          simp only [Rg.putAll, List.setIfInBounds_toArray, List.set_cons_zero, List.set_cons_succ, k25, k26, k27, k28, k29, k30, k31, k32, k33]
          generalize tm.getD 24 undef = u24 at *
          clear k25
          clear k26
          clear k27
          clear k28
          clear k29
          clear k30
          clear k31
          clear k32
          clear k33
          generalize tm.getD 34 undef = u34 at *
          generalize tm.getD 35 undef = u35 at *
          generalize tm.getD 36 undef = u36 at *
          obtain ⟨v4, r4, hown4, hch4, hof4⟩ := hR
          replace r4 : MAt W g v4 s4 (M.set 6 (.slice A l.length c)) := r4
          have hle : w.heap.size ≤ W.heap.size := hch4.size
          have hownC : Own 74 enE (cutW W w.heap.size) W (XA g w) (.slice A l.length c) l := hown4.base (by rw [cutW_size hle]; exact Nat.le_refl _)
          have hob : Off v4 (Value.slice A l.length c).ownBlock.toList := hof4 _ (h.bs.off fun k hk => by
            have := (hol k (by simpa using hk)).1
            omega)
          have hgo : g ∉ (Value.slice A l.length c).ownBlock.toList := fun hk => by
            have := (hol g (by simpa using hk)).1
            omega
          refine wpList_own elt_en 23 Try.underlying23 rfl _ _ rfl hownC rfl (cutW_ext hle) (m := [⟨t, d⟩]) (y := u36) rfl k36 (by have := r4.blk.lt; rintro (h | h) <;> omega) (by simp only [List.length_singleton]; omega) (by simp only [List.length_singleton]; omega) ?_
          intro l5 A5 c5 W5 hl5 hown5 hx5 hcc5
          have hr5 := r4.chg hcc5 hgo hob
          have hch5 := hch4.then_new hcc5 (fun k hk => (hol k (by simpa using hk)).1)
          have q8 : W5.cell? ⟨g, 8, none⟩ = some (.slice A l.length c) := by rw [hr5.cell 6, List.getElem?_set_self hlM]
          have f8 := hr5.blk.frozen 8
          have hl5n : Hid (l5.length = l.length + 1) := by unfold Hid; rw [hl5.out]; simp
          have hr6 := hr5.set 6 (.slice A5 l5.length c5)
          rw [List.set_set] at hr6
          have hown6 := (hown5.base (w0 := w) (by rw [cutW_size hle]; exact Nat.le_refl _)).chg ((Chg.refl [g] W5).set (p := ⟨g, 8, none⟩) (by simp) (.slice A5 l5.length c5)) (fun k hk _ => .inl (by simpa using hk))
          have hch6 := hch5.set (p := ⟨g, 8, none⟩) (by simp) (.slice A5 l5.length c5)
          clear hownC hcc5 hx5 hown5 k36 k35 k34
          go_wp2_with fail
          go_roundw
          case rel => exact ⟨k, l5, A5, c5, s4, v4, by go_num, by have := hl5n.out; omega, hr6, hown6, hide (by rw [HR2.out, hl5.out]), hch6, hof4⟩
          case measure => simp [intOf]
      · go_wp2_with fail
        go_end0
        have e3 : Cod.rep Cod.ent k (b2, e2) = ([], (b2, e2)) := by
          cases k with
          | zero => rfl
          | succ k => rw [Cod.rep, if_neg he]
        refine ⟨rfl, .slice A l.length c, ?_, ?_⟩
        · rw [HR.out, e3]
          simpa using hown.sl
        · rw [HR.out, e3]
          exact ⟨v2, hr, hch, hof⟩
end Go.Proofs.Ytlblgopfdadalaa
namespace Go.Proofs.Ytlblgopfdadalaa
set_option linter.unusedVariables false
set_option linter.unusedSimpArgs false
set_option linter.unnecessarySimpa false
set_option maxRecDepth 100000
open Go.RowKit
theorem ptext_len' (s : Rdr) : (ptext s).1.length ≤ s.1.length := by
  unfold ptext
  split
  · unfold otakeBytes
    split
    · simp
    · simp [List.length_take, List.length_drop]; omega
  · simp
set_option maxHeartbeats 1600000 in
theorem mcommand_b (g : Nat) (v : Value) (s : Rdr) (m : Mg) (ve vs : Value) (w : World) (h : MAt w g v s (mgcells m ve vs)) (hz : m.cmd = Cm.zero) :
    Calls Try.prog 76 #[.pointer (some ⟨g, 0, none⟩)] w fun e w' => e = .returned (.tuple #[]) ∧ MTo w w' g v (Cod.cmd.P s).2 (mgcells { m with cmd := (Cod.cmd.P s).1 } ve vs) := by
  obtain ⟨T, s1, hT⟩ : ∃ T s1, ptext s = (T, s1) := ⟨_, _, rfl⟩
  obtain ⟨C, E, hC⟩ : ∃ C E, ctake T = (C, E) := ⟨_, _, rfl⟩
  have HB := hide (mbytes_b g v s _ w h)
  have hTl := ptext_len' s
  rw [hT] at HB hTl
  simp only at HB hTl
  have hsl := h.len
  have HP : Hid (Cod.cmd.P s = if s1.2 = 0 then (C, pform (decide (E ≠ 0)) s1) else (Cm.zero, s1)) := hide (by
    show (if (ptext s).2.2 = 0 then ((ctake (ptext s).1).1, pform (decide ((ctake (ptext s).1).2 ≠ 0)) (ptext s).2) else (Cm.zero, (ptext s).2)) = _
    rw [hT]
    simp only
    rw [hC])
  have hct := fun (x : Value) (W : World) (hx : Bs W x T) => ctake_b x T W (by omega) hx
  rw [hC] at hct
  have HC := hide hct
  clear hct hT
  obtain ⟨CC, s9, hCC⟩ : ∃ CC s9, Cod.cmd.P s = (CC, s9) := ⟨_, _, rfl⟩
  rw [hCC] at HP ⊢
  clear hCC
  simp only
  go_enter Try.func76, Try.ntmps76
  go_wp2_with fail
  refine HB.out.mono ?_
  rintro e W1 ⟨T', A, c, hT', rfl, hz1, v1, r1, ch1, of1⟩
  have hT'' := hT'.out
  subst hT''
  obtain ⟨b1, e1⟩ := s1
  have q1 : W1.cell? ⟨g, 1, none⟩ = some (.int .i64 e1) := r1.c1
  by_cases he : e1 = 0
  · subst he
    have hxb := hz1.bs
    go_upto_region 2 with fail
    go_wp2_with fail
    refine (HC.out _ _ hxb).mono ?_
    rintro e W2 ⟨rfl, hx2⟩
    have r2 := r1.ext hx2
    have hxa := (Ext.rfl' W2).alloc' (.cells (ccells C) 28)
    obtain ⟨g2, hg2⟩ : ∃ g2, W2.heap.size = g2 := ⟨_, rfl⟩
    have hB := Blk.new W2 28 (ccells C)
    rw [hg2] at hB
    have r3 := r2.ext hxa
    go_upto_region 3 with fail
    change Code.wp _ _ _ _ (W2.alloc (.cells (ccells C) 28))
    generalize W2.alloc _ = W3 at *
    have ch3 : Chg [g] w W3 := (ch1.trans (hx2.chg [g])).trans (hxa.chg [g])
    clear hg2 hxa r2 hx2 ch1 r1 q1 hxb
    have b0 : W3.cell? ⟨g2, 0, none⟩ = some (.int .i64 C.kind) := (hB.cell 0).trans rfl
    have b1' : W3.cell? ⟨g2, 1, none⟩ = some (.int .i64 C.client) := (hB.cell 1).trans rfl
    have b2 : W3.cell? ⟨g2, 2, none⟩ = some (.int .u64 C.seq) := (hB.cell 2).trans rfl
    have b3 : W3.cell? ⟨g2, 3, none⟩ = some (str C.name) := (hB.cell 3).trans rfl
    have b4 : W3.cell? ⟨g2, 4, none⟩ = some (str C.url) := (hB.cell 4).trans rfl
    have b5 : W3.cell? ⟨g2, 5, none⟩ = some (.int .u64 C.till) := (hB.cell 5).trans rfl
    have hgg : g2 ≠ g := by
      rintro rfl
      have h1 := hB
      have h2 := r3.blk
      unfold Blk at h1 h2
      rw [h1] at h2
      have h3 := Option.some.inj h2
      simp only [Obj.cells.injEq] at h3
      exact absurd h3.2.1 (by decide)
    by_cases hE : E = 0
    · subst hE
      have hP2 : CC = C ∧ s9 = (b1, 0) := by
        have := HP.out
        simp only [if_true, reduceIte] at this
        rw [decide_eq_false (by simp), pform_no] at this
        exact ⟨(Prod.mk.inj this).1, (Prod.mk.inj this).2⟩
      obtain ⟨rfl, rfl⟩ := hP2
      have x0 : (W3).cell? ⟨g, 15, none⟩ = some (.int .i64 0) := by rw [r3.cell 13]; show some _ = _; rw [hz]; rfl
      have z0 := r3.blk.frozen 15
      have x1 : (W3).cell? ⟨g, 16, none⟩ = some (.int .i64 0) := by rw [r3.cell 14]; show some _ = _; rw [hz]; rfl
      have z1 := r3.blk.frozen 16
      have x2 : (W3).cell? ⟨g, 17, none⟩ = some (.int .u64 0) := by rw [r3.cell 15]; show some _ = _; rw [hz]; rfl
      have z2 := r3.blk.frozen 17
      have x3 : (W3).cell? ⟨g, 18, none⟩ = some (str []) := by rw [r3.cell 16]; show some _ = _; rw [hz]; rfl
      have z3 := r3.blk.frozen 18
      have x4 : (W3).cell? ⟨g, 19, none⟩ = some (str []) := by rw [r3.cell 17]; show some _ = _; rw [hz]; rfl
      have z4 := r3.blk.frozen 19
      have x5 : (W3).cell? ⟨g, 20, none⟩ = some (.int .u64 0) := by rw [r3.cell 18]; show some _ = _; rw [hz]; rfl
      have z5 := r3.blk.frozen 20
      go_wp2_with fail
      go_end0
      exact ⟨rfl, v1, ((((((r3.set 13 (.int .i64 CC.kind)).set 14 (.int .i64 CC.client)).set 15 (.int .u64 CC.seq)).set 16 (str CC.name)).set 17 (str CC.url)).set 18 (.int .u64 CC.till)), (((((((ch3.set (p := ⟨g, 15, none⟩) (by simp) _).set (p := ⟨g, 16, none⟩) (by simp) _).set (p := ⟨g, 17, none⟩) (by simp) _).set (p := ⟨g, 18, none⟩) (by simp) _).set (p := ⟨g, 19, none⟩) (by simp) _).set (p := ⟨g, 20, none⟩) (by simp) _)), of1⟩
    · have r4 := r3.err 2
      have f1 := r3.blk.frozen 1
      have q1 : W3.cell? ⟨g, 1, none⟩ = some (.int .i64 0) := r3.c1
      have chE : Chg [g] W3 (W3.setCell ⟨g, 1, none⟩ (.int .i64 2)) := (Chg.refl [g] W3).set (by simp) _
      have hBE := hB.chg chE (by simpa using hgg)
      have bb0 : (W3.setCell ⟨g, 1, none⟩ (.int .i64 2)).cell? ⟨g2, 0, none⟩ = some (.int .i64 C.kind) := (hBE.cell 0).trans rfl
      have bb1 : (W3.setCell ⟨g, 1, none⟩ (.int .i64 2)).cell? ⟨g2, 1, none⟩ = some (.int .i64 C.client) := (hBE.cell 1).trans rfl
      have bb2 : (W3.setCell ⟨g, 1, none⟩ (.int .i64 2)).cell? ⟨g2, 2, none⟩ = some (.int .u64 C.seq) := (hBE.cell 2).trans rfl
      have bb3 : (W3.setCell ⟨g, 1, none⟩ (.int .i64 2)).cell? ⟨g2, 3, none⟩ = some (str C.name) := (hBE.cell 3).trans rfl
      have bb4 : (W3.setCell ⟨g, 1, none⟩ (.int .i64 2)).cell? ⟨g2, 4, none⟩ = some (str C.url) := (hBE.cell 4).trans rfl
      have bb5 : (W3.setCell ⟨g, 1, none⟩ (.int .i64 2)).cell? ⟨g2, 5, none⟩ = some (.int .u64 C.till) := (hBE.cell 5).trans rfl
      have hP2 : CC = C ∧ s9 = (b1, 2) := by
        have := HP.out
        simp only [if_true, reduceIte] at this
        rw [decide_eq_true hE, pform_yes] at this
        exact ⟨(Prod.mk.inj this).1, (Prod.mk.inj this).2⟩
      obtain ⟨rfl, rfl⟩ := hP2
      have x0 : (W3.setCell ⟨g, 1, none⟩ (.int .i64 2)).cell? ⟨g, 15, none⟩ = some (.int .i64 0) := by rw [r4.cell 13]; show some _ = _; rw [hz]; rfl
      have z0 := r4.blk.frozen 15
      have x1 : (W3.setCell ⟨g, 1, none⟩ (.int .i64 2)).cell? ⟨g, 16, none⟩ = some (.int .i64 0) := by rw [r4.cell 14]; show some _ = _; rw [hz]; rfl
      have z1 := r4.blk.frozen 16
      have x2 : (W3.setCell ⟨g, 1, none⟩ (.int .i64 2)).cell? ⟨g, 17, none⟩ = some (.int .u64 0) := by rw [r4.cell 15]; show some _ = _; rw [hz]; rfl
      have z2 := r4.blk.frozen 17
      have x3 : (W3.setCell ⟨g, 1, none⟩ (.int .i64 2)).cell? ⟨g, 18, none⟩ = some (str []) := by rw [r4.cell 16]; show some _ = _; rw [hz]; rfl
      have z3 := r4.blk.frozen 18
      have x4 : (W3.setCell ⟨g, 1, none⟩ (.int .i64 2)).cell? ⟨g, 19, none⟩ = some (str []) := by rw [r4.cell 17]; show some _ = _; rw [hz]; rfl
      have z4 := r4.blk.frozen 19
      have x5 : (W3.setCell ⟨g, 1, none⟩ (.int .i64 2)).cell? ⟨g, 20, none⟩ = some (.int .u64 0) := by rw [r4.cell 18]; show some _ = _; rw [hz]; rfl
      have z5 := r4.blk.frozen 20
      go_wp2_with fail
      go_end0
      exact ⟨rfl, v1, ((((((r4.set 13 (.int .i64 CC.kind)).set 14 (.int .i64 CC.client)).set 15 (.int .u64 CC.seq)).set 16 (str CC.name)).set 17 (str CC.url)).set 18 (.int .u64 CC.till)), ((((((((ch3.set (p := ⟨g, 1, none⟩) (by simp) (.int .i64 2)).set (p := ⟨g, 15, none⟩) (by simp) _).set (p := ⟨g, 16, none⟩) (by simp) _).set (p := ⟨g, 17, none⟩) (by simp) _).set (p := ⟨g, 18, none⟩) (by simp) _).set (p := ⟨g, 19, none⟩) (by simp) _).set (p := ⟨g, 20, none⟩) (by simp) _)), of1⟩
  · have hP2 : CC = Cm.zero ∧ s9 = (b1, e1) := by
      have := HP.out
      rw [if_neg he] at this
      exact ⟨(Prod.mk.inj this).1, (Prod.mk.inj this).2⟩
    obtain ⟨rfl, rfl⟩ := hP2
    go_wp2_with fail
    try simp only [Exit.inBlock, Exit.then]
    refine bodyPost_ret (results_none rfl _ _ _) rfl ?_
    refine ⟨rfl, v1, ?_, ch1, of1⟩
    rw [← hz]
    exact r1
end Go.Proofs.Ytlblgopfdadalaa
