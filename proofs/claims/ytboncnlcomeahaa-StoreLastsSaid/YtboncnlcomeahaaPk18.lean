import Derived.Test.YtboncnlcomeahaaPk17
import Derived.Deep.DeepCutAuto
import Derived.StillTailTactics
import Derived.RegionTactic
/- What records come to: the folder's methods. -/
namespace Go.Proofs.Ytboncnlcomeahaa
set_option linter.unusedVariables false
set_option linter.unusedSimpArgs false
set_option linter.unnecessarySimpa false
set_option maxRecDepth 100000
open Go.RowKit
/-- a folder in block g: its bytes lie elsewhere, its entries in new memory -/
def FoV (X : Avoid) (w0 W : World) (g : Nat) (k : Kp) (As : Option Addr) (cs : Nat) (Ae : Option Addr) (ce : Nat) : Prop :=
  Blk W g 77 #[.int .u64 k.hard.term, .int .i64 k.hard.vote, .int .u64 k.snap.index, .int .u64 k.snap.term, .slice As k.snap.state.length cs, .slice Ae k.ents.length ce] ∧ Enc.BsX W (fun j => (X j ∨ j = g) ∨ (Value.slice Ae k.ents.length ce).ownBlock = some j) (.slice As k.snap.state.length cs) k.snap.state ∧ OwnO 36 enE w0 W (fun j => X j ∨ j = g) (.slice Ae k.ents.length ce) k.ents
def FoAt (X : Avoid) (w0 W : World) (g : Nat) (k : Kp) : Prop := ∃ As cs Ae ce, FoV X w0 W g k As cs Ae ce
theorem FoAt.ext {X : Avoid} {w0 W W' : World} {g : Nat} {k : Kp} (h : FoAt X w0 W g k) (hx : Ext W W') : FoAt X w0 W' g k := by
  obtain ⟨As, cs, Ae, ce, h1, h2, h3⟩ := h
  exact ⟨As, cs, Ae, ce, h1.ext hx, h2.ext hx, h3.ext hx⟩
theorem FoAt.lt {X : Avoid} {w0 W : World} {g : Nat} {k : Kp} (h : FoAt X w0 W g k) : g < W.heap.size := by
  obtain ⟨As, cs, Ae, ce, h1, -⟩ := h
  exact h1.lt
/-- the entries are written over -/
theorem FoV.ents {X : Avoid} {w0 W : World} {g : Nat} {k : Kp} {As Ae : Option Addr} {cs ce : Nat} (h : FoV X w0 W g k As cs Ae ce) {A : Option Addr} {n c : Nat} {l : List En} (hn : n = l.length) (hob : ∀ j, (Value.slice A l.length c).ownBlock = some j → (Value.slice Ae k.ents.length ce).ownBlock = some j) (ho : OwnO 36 enE w0 W (fun j => X j ∨ j = g) (.slice A l.length c) l) :
    FoV X w0 (W.setCell ⟨g, 5, none⟩ (.slice A n c)) g ⟨k.hard, k.snap, l⟩ As cs A c ∧ Chg [g] W (W.setCell ⟨g, 5, none⟩ (.slice A n c)) := by
  subst hn
  have hcg : Chg [g] W (W.setCell ⟨g, 5, none⟩ (.slice A l.length c)) := (Chg.refl _ _).set (by simp) _
  exact ⟨⟨h.1.set_ 5 _, (h.2.1.mono (fun j _ hj => hj.elim .inl fun h => .inr (hob j h))).chg hcg (fun j hj _ => .inl (.inr (List.mem_singleton.1 hj))), ho.chg hcg (fun j hj _ => .inr (List.mem_singleton.1 hj))⟩, hcg⟩
set_option maxHeartbeats 3200000 in
theorem focut_b (X : Avoid) (w0 : World) (g : Nat) (k : Kp) (i : Int) (w : World) (h : FoAt X w0 w g k) (hk : k.wide) (hi : 0 ≤ i ∧ i ≤ 18446744073709551615) :
    Calls Try.prog 61 #[.pointer (some ⟨g, 0, none⟩), .int .u64 i] w fun e w' => e = .returned (.tuple #[]) ∧ FoAt X w0 w' g ⟨k.hard, k.snap, k.ents.take (kcutN k i)⟩ ∧ Chg [g] w w' := by
  obtain ⟨As, cs, Ae, ce, hF⟩ := h
  have hB := hF.1
  obtain ⟨A', c', he', hle, hce⟩ := hF.2.2.form
  simp only [Value.slice.injEq, true_and] at he'
  obtain ⟨rfl, rfl⟩ := he'
  simp only [maxLen] at hce
  have b2 := (hB.cell 2).trans rfl
  have b5 := (hB.cell 5).trans rfl
  have hconv : IntKind.u64.wrap (k.ents.length : Int) = k.ents.length := IntWalk.u64_in _ ⟨by omega, by omega⟩
  have hn0 := hk.n0
  by_cases h0 : i ≤ k.snap.index
  · have HK : Hid (kcutN k i = 0) := if_pos h0
    have f5 := hB.frozen 5
    go_enter Try.func61, Try.ntmps61
    go_wp2
    go_end0
    obtain ⟨h1, h2⟩ := hF.ents (A := none) (n := 0) (c := 0) (l := []) rfl (fun j h => by cases h) (OwnO.nil _ _ _ _ _)
    refine ⟨rfl, ⟨As, cs, none, 0, ?_⟩, h2⟩
    rw [HK.out, List.take_zero]
    exact h1
  · have hw1 : IntKind.u64.wrap (i - k.snap.index) = i - k.snap.index := IntWalk.u64_in _ ⟨by omega, by omega⟩
    obtain ⟨m, hm⟩ : ∃ m : Nat, i - k.snap.index - 1 = (m : Int) := ⟨(i - k.snap.index - 1).toNat, by omega⟩
    have hw2 : IntKind.u64.wrap (i - k.snap.index - 1) = (m : Int) := by rw [hm]; exact IntWalk.u64_in _ ⟨by omega, by omega⟩
    have HK : Hid (kcutN k i = min k.ents.length m) := hide (by unfold kcutN; rw [if_neg h0, hm]; rfl)
    have HM := hide hm
    clear hm
    by_cases hlt : (m : Int) < k.ents.length
    · obtain ⟨i0, hi0, hz0, hz1, hz2⟩ := info_parts elt_en.info
      have hml : m ≤ k.ents.length := by omega
      have hmc : m ≤ ce := by omega
      go_enter Try.func61, Try.ntmps61
      go_upto_region 4 with fail
      refine Rg.regionT Try.checked.mixed 54 19 (by kernel_rfl) [
        (fun x_ _ => x_ = .pointer (some ⟨g, 0, none⟩)),
        (fun x_ _ => x_ = .pointer (some ⟨g, 0, none⟩)),
        (fun x_ _ => x_ = .pointer (some ⟨g, 0, none⟩)),
        (fun x_ _ => x_ = .pointer (some ⟨g, 0, none⟩)),
        (fun x_ _ => x_ = .pointer (some ⟨g, 5, none⟩)),
        (fun x_ _ => x_ = .slice Ae k.ents.length ce),
        (fun x_ _ => x_ = .int .u64 i),
        (fun x_ _ => x_ = .pointer (some ⟨g, 0, none⟩)),
        (fun x_ _ => x_ = .pointer (some ⟨g, 0, none⟩)),
        (fun x_ _ => x_ = .pointer (some ⟨g, 0, none⟩)),
        (fun x_ _ => x_ = .pointer (some ⟨g, 2, none⟩)),
        (fun x_ _ => x_ = .pointer (some ⟨g, 2, none⟩)),
        (fun x_ _ => x_ = .int .u64 k.snap.index),
        (fun x_ _ => x_ = .int .u64 (i - k.snap.index)),
        (fun x_ _ => x_ = .int .u64 (m : Nat)),
        (fun x_ _ => x_ = .slice Ae m ce),
        (fun x_ _ => x_ = .pointer (some ⟨g, 0, none⟩)),
        (fun x_ _ => x_ = .pointer (some ⟨g, 0, none⟩)),
        (fun x_ _ => x_ = .pointer (some ⟨g, 5, none⟩))] (fun W => Ext w W) Ext rfl rfl rfl
        ?st ((Ext.rfl' w).drew') ?ob ?en
      case st => exact ⟨fun _ _ _ h _ => h, fun _ _ _ h _ => h, fun _ _ _ h _ => h, fun _ _ _ h _ => h, fun _ _ _ h _ => h, fun _ _ _ h _ => h, fun _ _ _ h _ => h, fun _ _ _ h _ => h, fun _ _ _ h _ => h, fun _ _ _ h _ => h, fun _ _ _ h _ => h, fun _ _ _ h _ => h, fun _ _ _ h _ => h, fun _ _ _ h _ => h, fun _ _ _ h _ => h, fun _ _ _ h _ => h, fun _ _ _ h _ => h, fun _ _ _ h _ => h, fun _ _ _ h _ => h, trivial⟩
      case ob =>
        refine ⟨Rg.at_run [0] rfl ?_, ?_⟩
        · intro ρ W hR ⟨q0, _⟩
          replace q0 : ρ 0 = .pointer (some ⟨g, 0, none⟩) := q0
          refine ⟨rfl, ?_⟩
          exact Rg.run_ok (v := .pointer (some ⟨g, 0, none⟩)) (by simp [execOp, Rg.ev, go_sem, q0]) ⟨rfl, hR, Ext.rfl' _⟩
        refine ⟨Rg.at_run [0] rfl ?_, ?_⟩
        · intro ρ W hR ⟨q0, _⟩
          replace q0 : ρ 0 = .pointer (some ⟨g, 0, none⟩) := q0
          refine ⟨rfl, ?_⟩
          exact Rg.run_ok (v := .pointer (some ⟨g, 0, none⟩)) (by simp [execOp, Rg.ev, go_sem, q0]) ⟨rfl, hR, Ext.rfl' _⟩
        refine ⟨Rg.at_run [36] rfl ?_, ?_⟩
        · intro ρ W hR ⟨q36, _⟩
          replace q36 : ρ 36 = .pointer (some ⟨g, 0, none⟩) := q36
          refine ⟨rfl, ?_⟩
          exact Rg.run_ok (v := .pointer (some ⟨g, 0, none⟩)) (by simp [execOp, Rg.ev, go_sem, q36]) ⟨rfl, hR, Ext.rfl' _⟩
        refine ⟨Rg.at_run [37] rfl ?_, ?_⟩
        · intro ρ W hR ⟨q37, _⟩
          replace q37 : ρ 37 = .pointer (some ⟨g, 0, none⟩) := q37
          refine ⟨rfl, ?_⟩
          exact Rg.run_ok (v := .pointer (some ⟨g, 0, none⟩)) (by simp [execOp, Rg.ev, go_sem, q37]) ⟨rfl, hR, Ext.rfl' _⟩
        refine ⟨Rg.at_run [38] rfl ?_, ?_⟩
        · intro ρ W hR ⟨q38, _⟩
          replace q38 : ρ 38 = .pointer (some ⟨g, 0, none⟩) := q38
          refine ⟨rfl, ?_⟩
          exact Rg.run_ok (v := .pointer (some ⟨g, 5, none⟩)) (by simp [execOp, Rg.ev, go_sem, q38]) ⟨rfl, hR, Ext.rfl' _⟩
        refine ⟨Rg.at_run [39] rfl ?_, ?_⟩
        · intro ρ W hR ⟨q39, _⟩
          replace q39 : ρ 39 = .pointer (some ⟨g, 5, none⟩) := q39
          refine ⟨rfl, ?_⟩
          have c5_ : W.cell? ⟨g, 5, none⟩ = some (.slice Ae k.ents.length ce) := ((hB.ext hR).cell 5).trans rfl
          exact Rg.run_ok (v := .slice Ae k.ents.length ce) (by simp [execOp, Rg.ev, go_sem, q39, c5_]) ⟨rfl, hR, Ext.rfl' _⟩
        refine ⟨Rg.at_run [1] rfl ?_, ?_⟩
        · intro ρ W hR ⟨q1, _⟩
          replace q1 : ρ 1 = .int .u64 i := q1
          refine ⟨rfl, ?_⟩
          exact Rg.run_ok (v := .int .u64 i) (by simp [execOp, Rg.ev, go_sem, q1]) ⟨rfl, hR, Ext.rfl' _⟩
        refine ⟨Rg.at_run [0] rfl ?_, ?_⟩
        · intro ρ W hR ⟨q0, _⟩
          replace q0 : ρ 0 = .pointer (some ⟨g, 0, none⟩) := q0
          refine ⟨rfl, ?_⟩
          exact Rg.run_ok (v := .pointer (some ⟨g, 0, none⟩)) (by simp [execOp, Rg.ev, go_sem, q0]) ⟨rfl, hR, Ext.rfl' _⟩
        refine ⟨Rg.at_run [42] rfl ?_, ?_⟩
        · intro ρ W hR ⟨q42, _⟩
          replace q42 : ρ 42 = .pointer (some ⟨g, 0, none⟩) := q42
          refine ⟨rfl, ?_⟩
          exact Rg.run_ok (v := .pointer (some ⟨g, 0, none⟩)) (by simp [execOp, Rg.ev, go_sem, q42]) ⟨rfl, hR, Ext.rfl' _⟩
        refine ⟨Rg.at_run [43] rfl ?_, ?_⟩
        · intro ρ W hR ⟨q43, _⟩
          replace q43 : ρ 43 = .pointer (some ⟨g, 0, none⟩) := q43
          refine ⟨rfl, ?_⟩
          exact Rg.run_ok (v := .pointer (some ⟨g, 0, none⟩)) (by simp [execOp, Rg.ev, go_sem, q43]) ⟨rfl, hR, Ext.rfl' _⟩
        refine ⟨Rg.at_run [44] rfl ?_, ?_⟩
        · intro ρ W hR ⟨q44, _⟩
          replace q44 : ρ 44 = .pointer (some ⟨g, 0, none⟩) := q44
          refine ⟨rfl, ?_⟩
          exact Rg.run_ok (v := .pointer (some ⟨g, 2, none⟩)) (by simp [execOp, Rg.ev, go_sem, q44]) ⟨rfl, hR, Ext.rfl' _⟩
        refine ⟨Rg.at_run [45] rfl ?_, ?_⟩
        · intro ρ W hR ⟨q45, _⟩
          replace q45 : ρ 45 = .pointer (some ⟨g, 2, none⟩) := q45
          refine ⟨rfl, ?_⟩
          exact Rg.run_ok (v := .pointer (some ⟨g, 2, none⟩)) (by simp [execOp, Rg.ev, go_sem, q45]) ⟨rfl, hR, Ext.rfl' _⟩
        refine ⟨Rg.at_run [46] rfl ?_, ?_⟩
        · intro ρ W hR ⟨q46, _⟩
          replace q46 : ρ 46 = .pointer (some ⟨g, 2, none⟩) := q46
          refine ⟨rfl, ?_⟩
          have c2_ : W.cell? ⟨g, 2, none⟩ = some (.int .u64 k.snap.index) := ((hB.ext hR).cell 2).trans rfl
          exact Rg.run_ok (v := .int .u64 k.snap.index) (by simp [execOp, Rg.ev, go_sem, q46, c2_]) ⟨rfl, hR, Ext.rfl' _⟩
        refine ⟨Rg.at_run [41, 47] rfl ?_, ?_⟩
        · intro ρ W hR ⟨q41, q47, _⟩
          replace q41 : ρ 41 = .int .u64 i := q41
          replace q47 : ρ 47 = .int .u64 k.snap.index := q47
          refine ⟨rfl, ?_⟩
          exact Rg.run_ok (v := .int .u64 (i - k.snap.index)) (by simp [execOp, Rg.ev, go_sem, q41, q47, hw1]) ⟨rfl, hR, Ext.rfl' _⟩
        refine ⟨Rg.at_run [48] rfl ?_, ?_⟩
        · intro ρ W hR ⟨q48, _⟩
          replace q48 : ρ 48 = .int .u64 (i - k.snap.index) := q48
          refine ⟨rfl, ?_⟩
          exact Rg.run_ok (v := .int .u64 (m : Nat)) (by simp [execOp, Rg.ev, go_sem, q48, hw2]) ⟨rfl, hR, Ext.rfl' _⟩
        refine ⟨Rg.at_run [40, 49] rfl ?_, ?_⟩
        · intro ρ W hR ⟨q40, q49, _⟩
          replace q40 : ρ 40 = .slice Ae k.ents.length ce := q40
          replace q49 : ρ 49 = .int .u64 (m : Nat) := q49
          refine ⟨rfl, ?_⟩
          have hs := run_sl_h (P := Try.prog) (A := Ae) (n := k.ents.length) (c := ce) (kh := .u64) Try.underlying31 hi0 hz1 m rfl (by omega) W
          exact Rg.run_ok (v := .slice Ae m ce) (by simp [execOp, Rg.ev, go_sem, q40, q49, hs]) ⟨rfl, hR, Ext.rfl' _⟩
        refine ⟨Rg.at_run [35] rfl ?_, ?_⟩
        · intro ρ W hR ⟨q35, _⟩
          replace q35 : ρ 35 = .pointer (some ⟨g, 0, none⟩) := q35
          refine ⟨rfl, ?_⟩
          exact Rg.run_ok (v := .pointer (some ⟨g, 0, none⟩)) (by simp [execOp, Rg.ev, go_sem, q35]) ⟨rfl, hR, Ext.rfl' _⟩
        refine ⟨Rg.at_run [51] rfl ?_, ?_⟩
        · intro ρ W hR ⟨q51, _⟩
          replace q51 : ρ 51 = .pointer (some ⟨g, 0, none⟩) := q51
          refine ⟨rfl, ?_⟩
          exact Rg.run_ok (v := .pointer (some ⟨g, 0, none⟩)) (by simp [execOp, Rg.ev, go_sem, q51]) ⟨rfl, hR, Ext.rfl' _⟩
        refine ⟨Rg.at_run [52] rfl ?_, ?_⟩
        · intro ρ W hR ⟨q52, _⟩
          replace q52 : ρ 52 = .pointer (some ⟨g, 0, none⟩) := q52
          refine ⟨rfl, ?_⟩
          exact Rg.run_ok (v := .pointer (some ⟨g, 5, none⟩)) (by simp [execOp, Rg.ev, go_sem, q52]) ⟨rfl, hR, Ext.rfl' _⟩
        trivial
      case en =>
        intro tm W hR hsz hk
        rw [Rg.fin_eq (ds := [35, 36, 37, 38, 39, 40, 41, 42, 43, 44, 45, 46, 47, 48, 49, 50, 51, 52, 53]) rfl rfl rfl hsz hk]
        have k35 : tm.getD 35 undef = .pointer (some ⟨g, 0, none⟩) := hk 35
        have k36 : tm.getD 36 undef = .pointer (some ⟨g, 0, none⟩) := hk 36
        have k37 : tm.getD 37 undef = .pointer (some ⟨g, 0, none⟩) := hk 37
        have k38 : tm.getD 38 undef = .pointer (some ⟨g, 0, none⟩) := hk 38
        have k39 : tm.getD 39 undef = .pointer (some ⟨g, 5, none⟩) := hk 39
        have k40 : tm.getD 40 undef = .slice Ae k.ents.length ce := hk 40
        have k41 : tm.getD 41 undef = .int .u64 i := hk 41
        have k42 : tm.getD 42 undef = .pointer (some ⟨g, 0, none⟩) := hk 42
        have k43 : tm.getD 43 undef = .pointer (some ⟨g, 0, none⟩) := hk 43
        have k44 : tm.getD 44 undef = .pointer (some ⟨g, 0, none⟩) := hk 44
        have k45 : tm.getD 45 undef = .pointer (some ⟨g, 2, none⟩) := hk 45
        have k46 : tm.getD 46 undef = .pointer (some ⟨g, 2, none⟩) := hk 46
        have k47 : tm.getD 47 undef = .int .u64 k.snap.index := hk 47
        have k48 : tm.getD 48 undef = .int .u64 (i - k.snap.index) := hk 48
        have k49 : tm.getD 49 undef = .int .u64 (m : Nat) := hk 49
        have k50 : tm.getD 50 undef = .slice Ae m ce := hk 50
        have k51 : tm.getD 51 undef = .pointer (some ⟨g, 0, none⟩) := hk 51
        have k52 : tm.getD 52 undef = .pointer (some ⟨g, 0, none⟩) := hk 52
        have k53 : tm.getD 53 undef = .pointer (some ⟨g, 5, none⟩) := hk 53
        clear hk hsz
        simp only [Rg.putAll, List.setIfInBounds_toArray, List.set_cons_zero, List.set_cons_succ, k35, k36, k37, k38, k39, k40, k41, k42, k43, k44, k45, k46, k47, k48, k49, k50, k51, k52, k53]
        clear k35
        clear k36
        clear k37
        clear k38
        clear k39
        clear k40
        clear k41
        clear k42
        clear k43
        clear k44
        clear k45
        clear k46
        clear k47
        clear k48
        clear k49
        clear k50
        clear k51
        clear k52
        clear k53
        replace hF : FoV X w0 W g k As cs Ae ce := ⟨hF.1.ext hR, hF.2.1.ext hR, hF.2.2.ext hR⟩
        have d5 := (hF.1.cell 5).trans rfl
        have f5 := hF.1.frozen 5
        clear b2 b5
        go_wp2_with fail
        go_end0
        obtain ⟨h1, h2⟩ := hF.ents (A := Ae) (n := m) (c := ce) (l := k.ents.take m) (by simp; omega) own_any (by rw [show (k.ents.take m).length = m by simp; omega]; exact hF.2.2.front hml)
        refine ⟨rfl, ⟨As, cs, Ae, ce, ?_⟩, (hR.chg [g]).trans h2⟩
        rw [HK.out, Nat.min_eq_right hml]
        exact h1
    · go_enter Try.func61, Try.ntmps61
      go_wp2
      go_end0
      refine ⟨rfl, ⟨As, cs, Ae, ce, ?_⟩, Chg.refl _ _⟩
      rw [HK.out, Nat.min_eq_left (by omega), List.take_length]
      exact hF
end Go.Proofs.Ytboncnlcomeahaa

/- What records come to: the folder's snap. -/
namespace Go.Proofs.Ytboncnlcomeahaa
set_option linter.unusedVariables false
set_option linter.unusedSimpArgs false
set_option linter.unnecessarySimpa false
set_option maxRecDepth 100000
open Go.RowKit
def snapQ (k : Kp) (s : Sn) : Bool := decide (s.index - k.snap.index ≤ k.ents.length) && (k.ents[(s.index - k.snap.index).toNat - 1]?).any (fun e => decide (e.term = s.term))
theorem ksnapE_q (k : Kp) (s : Sn) : ksnapE k s = if snapQ k s = true then k.ents.drop (s.index - k.snap.index).toNat else [] := by
  unfold ksnapE snapQ
  simp only [Bool.and_eq_true, decide_eq_true_eq]
set_option maxHeartbeats 3200000 in
theorem fosnap_b (X : Avoid) (w0 : World) (g : Nat) (k : Kp) (s : Sn) (v : Value) (w : World) (h : FoAt X w0 w g k) (hk : k.wide) (h0 : 0 ≤ s.index) (h1 : s.index ≤ 18446744073709551615) (hw0 : w0.heap.size ≤ g) (hv : Enc.BsX w (fun j => X j ∨ w0.heap.size ≤ j) v s.state) :
    Calls Try.prog 62 #[.pointer (some ⟨g, 0, none⟩), .agg (sncells s v).toArray] w fun e w' => e = .returned (.tuple #[]) ∧ FoAt X w0 w' g (ksnap k s) ∧ Chg [g] w w' := by
  obtain ⟨As, cs, Ae, ce, hF⟩ := h
  obtain ⟨Av, cv, rfl, -, -, -⟩ := id hv.1
  obtain ⟨gs, hgs⟩ : ∃ g_, w.heap.size = g_ := ⟨_, rfl⟩
  have hS := Blk.new w 30 (sncells s (.slice Av s.state.length cv)).toArray
  rw [hgs] at hS
  have hz : Ext w (w.alloc (.cells (sncells s (.slice Av s.state.length cv)).toArray 30)) := (Ext.rfl' w).alloc' _
  replace hF : FoV X w0 _ g k As cs Ae ce := ⟨hF.1.ext hz, hF.2.1.ext hz, hF.2.2.ext hz⟩
  replace hv := hv.ext hz
  have hgg : g ≠ gs := by intro h; subst h; have := hS; unfold Blk at this; have h9 := hF.1; unfold Blk at h9; rw [this] at h9; injection h9 with h9; injection h9 with h9; exact absurd (congrArg Array.size h9) (by simp)
  obtain ⟨A', c', he', hle, hce⟩ := hF.2.2.form
  simp only [Value.slice.injEq, true_and] at he'
  obtain ⟨rfl, rfl⟩ := he'
  simp only [maxLen] at hce
  have hn0 := hk.n0
  have hn1 := hk.n1
  go_enter Try.func62, Try.ntmps62
  go_upto_region 1 with fail
  try rw [hgs]
  clear hgs
  generalize (w.alloc (.cells (sncells s (.slice Av s.state.length cv)).toArray 30)) = w1 at *
  have b2 := (hF.1.cell 2).trans rfl
  have s0 := (hS.cell 0).trans rfl
  by_cases hle2 : s.index ≤ k.snap.index
  · have HK : Hid (ksnap k s = k) := if_pos hle2
    go_region
    go_wp2
    try simp only [Exit.inBlock, Exit.then]
    refine bodyPost_ret (results_none rfl _ _ _) rfl ?_
    rw [HK.out]
    exact ⟨rfl, ⟨As, cs, Ae, ce, hF.1.drew, hF.2.1.ext (Ext.rfl' _).drew', hF.2.2.ext (Ext.rfl' _).drew'⟩, ((hz.chg _).drew)⟩
  · have HK : Hid (ksnap k s = ⟨k.hard, s, ksnapE k s⟩) := if_neg hle2
    obtain ⟨m, hm⟩ : ∃ m : Nat, s.index - k.snap.index = ((m + 1 : Nat) : Int) := ⟨(s.index - k.snap.index - 1).toNat, by omega⟩
    have hw1 : IntKind.u64.wrap (s.index - k.snap.index) = (m : Int) + 1 := by rw [hm]; exact IntWalk.u64_in _ ⟨by omega, by omega⟩
    have hw2 : IntKind.u64.wrap ((m : Int) + 1 - 1) = (m : Int) := by rw [show (m : Int) + 1 - 1 = m by omega]; exact IntWalk.u64_in _ ⟨by omega, by omega⟩
    have hconv : IntKind.u64.wrap (k.ents.length : Int) = k.ents.length := IntWalk.u64_in _ ⟨by omega, by omega⟩
    have HQ : Hid (snapQ k s = (decide (((m + 1 : Nat) : Int) ≤ k.ents.length) && (k.ents[m]?).any (fun e => decide (e.term = s.term)))) := hide (by unfold snapQ; rw [hm]; rfl)
    have HM := hide hm
    clear hm
    go_region
    go_upto_region 2 with fail
    go_region
    go_upto_region 3 with fail
    have hd2 : Ext w1 w1.drew.drew := ((Ext.rfl' w1).drew').drew'
    replace hF : FoV X w0 _ g k As cs Ae ce := ⟨hF.1.ext hd2, hF.2.1.ext hd2, hF.2.2.ext hd2⟩
    replace hS := hS.ext hd2
    replace hv := hv.ext hd2
    replace hz := hz.trans' hd2
    clear hd2 b2 s0
    generalize w1.drew.drew = w2 at *
    have b5 := (hF.1.cell 5).trans rfl
    have s1 := (hS.cell 1).trans rfl
    have hdx := (Ext.rfl' w2).drew'
    go_cut [46] (fun b wx => b = .bool (snapQ k s) ∧ Ext w2 wx)
    case first =>
      by_cases hlt : ((m : Int) + 1) ≤ k.ents.length
      · obtain ⟨ad, y, vy, rfl, hyk, hbp, p0, p1, -, -⟩ := en_at hF.2.2.sl (k := m) (by omega)
        have hm0 : (0 : Int) ≤ m := by omega
        have hml : (m : Int) < k.ents.length := by omega
        rcases Bool.eq_false_or_eq_true (y.term == s.term) with ht | ht
        · have HQ2 : Hid (snapQ k s = true) := hide (by rw [HQ.out, hyk.out]; simp at ht; simp [ht]; omega)
          go_region
          go_wp2_with fail
          go_meet
          case rel => exact ⟨by rw [HQ2.out], hdx⟩
        · have HQ2 : Hid (snapQ k s = false) := hide (by rw [HQ.out, hyk.out]; simp at ht; simp [ht])
          go_region
          go_wp2_with fail
          go_meet
          case rel => exact ⟨by rw [HQ2.out], hdx⟩
      · have HQ2 : Hid (snapQ k s = false) := hide (by rw [HQ.out, decide_eq_false (by omega)]; rfl)
        go_region
        go_wp2_with fail
        go_meet
        case rel => exact ⟨by rw [HQ2.out], hdx⟩
    case rest =>
      obtain ⟨rfl, hxc⟩ := hcut
      replace hF : FoV X w0 wc g k As cs Ae ce := ⟨hF.1.ext hxc, hF.2.1.ext hxc, hF.2.2.ext hxc⟩
      replace hS := hS.ext hxc
      replace hv := hv.ext hxc
      replace hz := hz.trans' hxc
      clear b5 s1 hdx
      generalize wc = w3 at *
      obtain ⟨q, hq⟩ : ∃ q, snapQ k s = q := ⟨_, rfl⟩
      rw [hq]
      have HQQ := hide hq
      clear hq
      go_upto_if 46 with fail
      go_cut [] (fun wx => ∃ Ae2 ce2, FoV X w0 wx g ⟨k.hard, k.snap, ksnapE k s⟩ As cs Ae2 ce2 ∧ Chg [g] w3 wx)
      case first =>
        have b5 := (hF.1.cell 5).trans rfl
        have f5 := hF.1.frozen 5
        cases q with
        | true =>
          have hml : m + 1 ≤ k.ents.length := by
            have := HQQ.out
            rw [HQ.out] at this
            simp at this
            omega
          obtain ⟨i0, hi0, hz0, hz1, hz2⟩ := info_parts elt_en.info
          have hsl := fun W => run_sl_l (P := Try.prog) (A := Ae) (n := k.ents.length) (c := ce) (lo := (m : Int) + 1) (kl := .u64) Try.underlying31 hi0 hz1 (m + 1) (by simp) (by omega) W
          go_wp2_with fail
          go_meet
          case rel =>
            have ho := hF.2.2.rest hml
            have hl : (k.ents.drop (m + 1)).length = k.ents.length - (m + 1) := List.length_drop
            obtain ⟨h1, h2⟩ := hF.ents (A := cutA 2 Ae ce (m + 1)) (n := k.ents.length - (m + 1)) (c := ce - (m + 1)) (l := k.ents.drop (m + 1)) hl.symm (by rw [hl]; exact cutA_own) (by rw [hl]; exact ho)
            rw [ksnapE_q, HQQ.out, if_pos rfl, HM.out]
            exact ⟨_, _, h1, h2⟩
        | false =>
          go_wp2_with fail
          go_meet
          case rel =>
            obtain ⟨h1, h2⟩ := hF.ents (A := none) (n := 0) (c := 0) (l := []) rfl (fun j h => by cases h) (OwnO.nil _ _ _ _ _)
            rw [ksnapE_q, HQQ.out, if_neg (by simp)]
            exact ⟨_, _, h1, h2⟩
      case rest =>
        obtain ⟨Ae2, ce2, hF2, hc3⟩ := hcut
        replace hS := hS.chg hc3 (by simpa using hgg.symm)
        replace hv := hv.chg hc3 (fun j hj _ => by have := List.mem_singleton.1 hj; exact .inr (by omega))
        have hcw := (hz.chg [g]).trans hc3
        generalize wc = w4 at *
        have s0 := (hS.cell 0).trans rfl
        have s1 := (hS.cell 1).trans rfl
        have s2 := (hS.cell 2).trans rfl
        have d2 := (hF2.1.cell 2).trans rfl
        have d3 := (hF2.1.cell 3).trans rfl
        have d4 := (hF2.1.cell 4).trans rfl
        have f2 := hF2.1.frozen 2
        have f3 := hF2.1.frozen 3
        have f4 := hF2.1.frozen 4
        go_wp2
        go_end0
        rw [HK.out]
        have hcg : Chg [g] w4 (((w4.setCell ⟨g, 2, none⟩ (.int .u64 s.index)).setCell ⟨g, 3, none⟩ (.int .u64 s.term)).setCell ⟨g, 4, none⟩ (.slice Av s.state.length cv)) := (((Chg.refl _ _).set (by simp) _).set (by simp) _).set (by simp) _
        refine ⟨rfl, ⟨Av, cv, Ae2, ce2, ((hF2.1.set_ 2 _).set_ 3 _).set_ 4 _, (hv.mono (fun j hj h => by rcases h with (h | h) | h; exact .inl h; exact .inr (by omega); exact .inr (hF2.2.2.own j h).1)).chg hcg (fun j hj _ => .inl (.inr (List.mem_singleton.1 hj))), hF2.2.2.chg hcg (fun j hj _ => .inr (List.mem_singleton.1 hj))⟩, hcw.trans hcg⟩
end Go.Proofs.Ytboncnlcomeahaa

