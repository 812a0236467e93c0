import Derived.Test.YtamimdlaclglkaaGreatPk33
import Derived.Test.YtamimdlaclglkaaGreatPk9
import Derived.Test.YtamimdlaclglkaaGreatPk13
import Derived.Test.YtamimdlaclglkaaGreatPk49
/- shortcutplay: commands of those who ask. -/
namespace Go.Proofs.YtamimdlaclglkaaGreat
set_option linter.unusedVariables false
set_option linter.unusedSimpArgs false
set_option linter.unnecessarySimpa false
set_option maxRecDepth 100000
open Go.RowKit
structure AskC (c : Cm) : Prop where
  k0 : 1 ≤ c.kind
  k1 : c.kind ≤ 4
  c0 : 0 ≤ c.client
  c1 : c.client < 4
  s0 : 0 ≤ c.seq
  s1 : c.seq ≤ 1000
  name : c.name.length ≤ 20
  url : c.url.length ≤ 20
  t0 : 0 ≤ c.till
  t1 : c.till ≤ 40
theorem AskC.wide {c : Cm} (h : AskC c) : c.wide := by
  have h1 := h.k0; have h2 := h.k1; have h3 := h.c0; have h3' := h.c1; have h4 := h.s0; have h4' := h.s1; have h5 := h.name; have h6 := h.url; have h7 := h.t0; have h8 := h.t1
  exact ⟨by omega, by omega, by omega, by omega, by omega, by omega, by unfold maxLen; omega, by unfold maxLen; omega, h7, by omega⟩
/-- the last number of each who asks -/
def SqAt (W : World) (gq : Nat) (n : Int) : Prop := ∃ cur : Array Value, Blk W gq 60 cur ∧ cur.size = 4 ∧ ∀ j, j < 4 → ∃ q : Int, cur[j]? = some (.int .u64 q) ∧ 0 ≤ q ∧ q ≤ n
theorem SqAt.chg {S : List Nat} {W W' : World} {gq : Nat} {n : Int} (h : SqAt W gq n) (hc : Chg S W W') (hg : gq ∉ S) : SqAt W' gq n := by
  obtain ⟨cur, h1, h2⟩ := h
  exact ⟨cur, h1.chg hc hg, h2⟩
theorem SqAt.ext {W W' : World} {gq : Nat} {n : Int} (h : SqAt W gq n) (hx : Ext W W') : SqAt W' gq n := by
  obtain ⟨cur, h1, h2⟩ := h
  exact ⟨cur, h1.ext hx, h2⟩
theorem SqAt.more {W : World} {gq : Nat} {n m : Int} (h : SqAt W gq n) (hm : n ≤ m) : SqAt W gq m := by
  obtain ⟨cur, h1, h2, h3⟩ := h
  exact ⟨cur, h1, h2, fun j hj => by obtain ⟨q, q1, q2, q3⟩ := h3 j hj; exact ⟨q, q1, q2, by omega⟩⟩
/-- some commands in new memory -/
def RetAskd (most : Int) (w w' : World) (e : Ending) : Prop := ∃ (cs : List Cm) (A : Option Addr) (c : Nat), (∀ m ∈ cs, AskC m) ∧ (cs.length : Int) ≤ most ∧ e = .returned (.slice A cs.length c) ∧ Own 37 cmE w w' noneAt (.slice A cs.length c) cs ∧ Ext w w'
set_option maxHeartbeats 6400000 in
theorem asked_b (x : Value) (b : Bytes) (most : Int) (w : World) (hx : Bs w x b) (hl : b.length ≤ 1000) (hm : 0 ≤ most ∧ most ≤ 100) :
    Calls Tryz.prog 9 #[x, .int .i64 most] w fun e w' => RetAskd most w w' e := by
  obtain ⟨Ax, cx, rfl, -, -, -⟩ := id hx
  go_enter Tryz.func9, Tryz.ntmps9
  go_wp2_with fail
  refine (made_b _ b w hx (by omega)).mono ?_
  rintro e w1 ⟨rfl, hp1, hx1⟩
  obtain ⟨g, hg⟩ : ∃ g, w.heap.size = g := ⟨_, rfl⟩
  rw [hg] at hp1 ⊢
  go_wp2_with fail
  have hsq1 : SqAt (w1.alloc (.cells #[.int .u64 0, .int .u64 0, .int .u64 0, .int .u64 0] 60)) w1.heap.size 0 := ⟨_, Blk.new w1 _ _, rfl, fun j hj => ⟨0, by
    have : j = 0 ∨ j = 1 ∨ j = 2 ∨ j = 3 := by omega
    rcases this with rfl | rfl | rfl | rfl <;> rfl, by omega, by omega⟩⟩
  have hxa1 : Ext w1 (w1.alloc (.cells #[.int .u64 0, .int .u64 0, .int .u64 0, .int .u64 0] 60)) := (Ext.rfl' _).alloc' _
  have hgl := hp1.blk.lt
  have hgw := hx1.size
  replace hp1 := hp1.ext hxa1
  replace hx1 := hx1.trans' hxa1
  obtain ⟨gq, hgq⟩ : ∃ g_, w1.heap.size = g_ := ⟨_, rfl⟩
  have hgqg : gq ≠ g := by omega
  have hgqw : w.heap.size ≤ gq := by omega
  rw [hgq] at hsq1 ⊢
  go_loopw [6, 8] (fun vo vi wr => ∃ (cs : List Cm) (A : Option Addr) (c n : Nat), (∀ m ∈ cs, AskC m) ∧ (cs.length : Int) ≤ most ∧ vo = .slice A cs.length c ∧ vi = .int .i64 cs.length ∧ Own 37 cmE w wr noneAt (.slice A cs.length c) cs ∧ PkAt wr g (.slice Ax b.length cx) b n ∧ SqAt wr gq (2 * cs.length) ∧ Ext w wr) (fun _ vi _ => (most - intOf vi).toNat)
  case atStart => exact ⟨[], none, 0, 0, by simp, by simp; omega, rfl, rfl, Own.nil _ _ _ _ _, hp1, hsq1.more (by simp), hx1⟩
  case round =>
    obtain ⟨cs, A, c, n, hpc, hlen, rfl, rfl, hown, hp, hsq, hxr⟩ := hrel
    by_cases hlt : (cs.length : Int) < most
    · have HLT := hide hlt
      go_wp2_with fail
      refine (pkover_b g _ b n wr hp).mono ?_
      rintro e w2 ⟨rfl, hx2⟩
      cases hov : decide (b.length ≤ n) with
      | true =>
        go_wp2
        go_ret
        exact ⟨cs, A, c, hpc, hlen, rfl, hown.ext hx2, hxr.trans' hx2⟩
      | false =>
        clear hov
        replace hp := hp.ext hx2
        replace hown := hown.ext hx2
        replace hsq := hsq.ext hx2
        replace hxr := hxr.trans' hx2
        clear hx2
        go_wp2_with fail
        refine (pknum_b g _ b n 4 _ hp (by decide)).mono ?_
        rintro e w3 ⟨r, hrr, rfl, n3, hp3, hc3⟩
        have hown3 := hown.chgT hp.blk (by decide) hc3 (fun h => cm_any h)
        have hsq3 := hsq.chg hc3 (by simpa using hgqg)
        have hxr3 := hxr.then_ hc3 (by simp; omega)
        clear hown hsq hxr hc3
        go_wp2_with fail
        refine (pknum_b g _ b n3 4 _ hp3 (by decide)).mono ?_
        rintro e w4 ⟨z, hz4, rfl, n4, hp4, hc4⟩
        have hown4 := hown3.chgT hp3.blk (by decide) hc4 (fun h => cm_any h)
        have hsq4 := hsq3.chg hc4 (by simpa using hgqg)
        have hxr4 := hxr3.then_ hc4 (by simp; omega)
        clear hown3 hsq3 hxr3 hc4 hp3 hp
        rcases Bool.eq_false_or_eq_true ((z : Int) == 0) with hz | hz
        · rcases Nat.eq_zero_or_pos cs.length with hc0 | hc0
          · have hl0 : ¬ ((0 : Int) < cs.length) := by omega
            clear hc0
            go_wp2_with fail
            refine (pkcmd_b g _ b n4 _ hp4).mono ?_
            rintro e w5 ⟨cm, hcm, rfl, n5, hp5, hc5⟩
            have hown5 := hown4.chgT hp4.blk (by decide) hc5 (fun h => cm_any h)
            have hsq5 := hsq4.chg hc5 (by simpa using hgqg)
            have hxr5 := hxr4.then_ hc5 (by simp; omega)
            have hxa : Ext w5 (w5.alloc (.cells (ccells cm) 37)) := (Ext.rfl' w5).alloc' _
            have hGc := Blk.new w5 37 (ccells cm)
            obtain ⟨gc, hgc⟩ : ∃ g_, w5.heap.size = g_ := ⟨_, rfl⟩
            rw [hgc] at hGc
            have hgcg : g < gc := by rw [← hgc]; exact hp5.blk.lt
            have hgcq : gq < gc := by
              obtain ⟨cur, hq1, -⟩ := hsq5
              rw [← hgc]; exact hq1.lt
            have hp3 := hp5.ext hxa
            have hsq6 := hsq5.ext hxa
            have hown6 := hown5.ext hxa
            have hxr6 := hxr5.trans' hxa
            have hgco : ∀ k, (Value.slice A cs.length c).ownBlock = some k → k ≠ gc := fun k hk => by have := (hown5.lt k hk).2; omega
            go_upto_region 11 with fail
            try rw [hgc]
            obtain ⟨W3, hW3⟩ : ∃ W3, W3 = (w5.alloc (.cells (ccells cm) 37)) := ⟨_, rfl⟩
            rw [← hW3] at hp3 hsq6 hown6 hxr6 hGc ⊢
            clear hW3 hxa
            obtain ⟨cur, hQ3, hqs, hqa⟩ := hsq6
            obtain ⟨q, hqc, hq0, hq1⟩ := hqa r (by omega)
            have hr0 : (0 : Int) ≤ r := by omega
            have hr4 : (r : Int) < 4 := hrr
            have HW1 : IntKind.u64.wrap (q + 1) = q + 1 := IntWalk.u64_in _ ⟨by omega, by omega⟩
            have HW2 : IntKind.u64.wrap (q + 1 + 1) = q + 2 := by rw [show q + 1 + 1 = q + 2 by omega]; exact IntWalk.u64_in _ ⟨by omega, by omega⟩
            refine Rg.regionT Tryz.checked.mixed 67 11 (by kernel_rfl) [
              (fun x_ _ => x_ = .int .i64 (r : Int)),
              (fun x_ _ => x_ = .int .i64 (r : Int)),
              (fun x_ _ => x_ = .pointer (some ⟨gq, r, none⟩)),
              (fun x_ _ => x_ = .int .u64 q),
              (fun x_ _ => x_ = .int .u64 (q + 1)),
              (fun x_ _ => x_ = .pointer (some ⟨g, 0, none⟩)),
              (fun v _ => ∃ r8 : Nat, (r8 : Int) < 8 ∧ v = .int .i64 r8),
              (fun v _ => v = .int .i64 0 ∨ v = .int .i64 1),
              (fun v _ => v = .int .u64 0 ∨ v = .int .u64 1),
              (fun v _ => v = .int .u64 (q + 1) ∨ v = .int .u64 (q + 2)),
              (fun x_ _ => x_ = .pointer (some ⟨gq, r, none⟩))] (fun W => ∃ n5, PkAt W g (.slice Ax b.length cx) b n5 ∧ Chg [g] W3 W) (Chg [g]) rfl rfl rfl
              ?st ⟨_, hp3.ext (Ext.rfl' _).drew', (Chg.refl _ _).drew⟩ ?ob ?en
            case st => exact ⟨fun _ _ _ h _ => h, fun _ _ _ h _ => h, fun _ _ _ h _ => h, fun _ _ _ h _ => h, fun _ _ _ h _ => h, fun _ _ _ h _ => h, fun _ _ _ h _ => h, fun _ _ _ h _ => h, fun _ _ _ h _ => h, fun _ _ _ h _ => h, fun _ _ _ h _ => h, trivial⟩
            case ob =>
              refine ⟨Rg.at_run [9] rfl ?_, ?_⟩
              · intro ρ W hR ⟨q9, _⟩
                replace q9 : ρ 9 = .int .i64 (r : Int) := q9
                refine ⟨rfl, ?_⟩
                exact Rg.run_ok (v := .int .i64 (r : Int)) (by simp [execOp, Rg.ev, go_sem, q9]) ⟨rfl, hR, Chg.refl _ _⟩
              refine ⟨Rg.at_run [9] rfl ?_, ?_⟩
              · intro ρ W hR ⟨q9, _⟩
                replace q9 : ρ 9 = .int .i64 (r : Int) := q9
                refine ⟨rfl, ?_⟩
                exact Rg.run_ok (v := .int .i64 (r : Int)) (by simp [execOp, Rg.ev, go_sem, q9]) ⟨rfl, hR, Chg.refl _ _⟩
              refine ⟨Rg.at_run [7, 46] rfl ?_, ?_⟩
              · intro ρ W hR ⟨q7, q46, _⟩
                replace q7 : ρ 7 = .pointer (some ⟨gq, 0, none⟩) := q7
                replace q46 : ρ 46 = .int .i64 (r : Int) := q46
                refine ⟨rfl, ?_⟩
                exact Rg.run_ok (v := .pointer (some ⟨gq, r, none⟩)) (by simp [execOp, Rg.ev, go_sem, q7, q46, hr0, hr4, Addr.add_lit]) ⟨rfl, hR, Chg.refl _ _⟩
              refine ⟨Rg.at_run [47] rfl ?_, ?_⟩
              · intro ρ W hR ⟨q47, _⟩
                replace q47 : ρ 47 = .pointer (some ⟨gq, r, none⟩) := q47
                refine ⟨rfl, ?_⟩
                have c_ : W.cell? ⟨gq, r, none⟩ = some (.int .u64 q) := ((hQ3.chg hR.choose_spec.2 (by simp; omega)).cell r).trans hqc
                exact Rg.run_ok (v := .int .u64 q) (by simp [execOp, Rg.ev, go_sem, q47, c_]) ⟨rfl, hR, Chg.refl _ _⟩
              refine ⟨Rg.at_run [48] rfl ?_, ?_⟩
              · intro ρ W hR ⟨q48, _⟩
                replace q48 : ρ 48 = .int .u64 q := q48
                refine ⟨rfl, ?_⟩
                exact Rg.run_ok (v := .int .u64 (q + 1)) (by simp [execOp, Rg.ev, go_sem, q48, HW1]) ⟨rfl, hR, Chg.refl _ _⟩
              refine ⟨Rg.at_run [5] rfl ?_, ?_⟩
              · intro ρ W hR ⟨q5, _⟩
                replace q5 : ρ 5 = .pointer (some ⟨g, 0, none⟩) := q5
                refine ⟨rfl, ?_⟩
                exact Rg.run_ok (v := .pointer (some ⟨g, 0, none⟩)) (by simp [execOp, Rg.ev, go_sem, q5]) ⟨rfl, hR, Chg.refl _ _⟩
              refine ⟨Rg.at_run [50] rfl ?_, ?_⟩
              · intro ρ W hR ⟨q50, _⟩
                replace q50 : ρ 50 = .pointer (some ⟨g, 0, none⟩) := q50
                refine ⟨rfl, ?_⟩
                obtain ⟨n5, hp5, hc5⟩ := hR
                refine Rg.enter_fn (args := #[.pointer (some ⟨g, 0, none⟩), .int .i64 8]) rfl (by simp only [List.map_toArray, List.map_cons, List.map_nil, Rg.ev, q50]) (by kernel_rfl) ?_
                refine (pknum_b g _ b n5 8 W hp5 (by decide)).mono ?_
                rintro e_ w9 ⟨r8, h8, rfl, n6, hp6, hc6⟩
                exact ⟨_, rfl, ⟨r8, h8, rfl⟩, ⟨n6, hp6, hc5.trans hc6⟩, hc6⟩
              refine ⟨Rg.at_run [51] rfl ?_, ?_⟩
              · intro ρ W hR ⟨q51, _⟩
                replace q51 : (fun v _ => ∃ r8 : Nat, (r8 : Int) < 8 ∧ v = .int .i64 r8) (ρ 51) W := q51
                refine ⟨rfl, ?_⟩
                obtain ⟨r8, h8, hv_⟩ := q51
                have h9 : r8 = 0 ∨ r8 = 1 ∨ r8 = 2 ∨ r8 = 3 ∨ r8 = 4 ∨ r8 = 5 ∨ r8 = 6 ∨ r8 = 7 := by omega
                rcases h9 with rfl | rfl | rfl | rfl | rfl | rfl | rfl | rfl
                · exact Rg.run_ok (v := .int .i64 0) (by simp [execOp, Rg.ev, go_sem, hv_] <;> rfl) ⟨.inl rfl, hR, Chg.refl _ _⟩
                · exact Rg.run_ok (v := .int .i64 0) (by simp [execOp, Rg.ev, go_sem, hv_] <;> rfl) ⟨.inl rfl, hR, Chg.refl _ _⟩
                · exact Rg.run_ok (v := .int .i64 0) (by simp [execOp, Rg.ev, go_sem, hv_] <;> rfl) ⟨.inl rfl, hR, Chg.refl _ _⟩
                · exact Rg.run_ok (v := .int .i64 0) (by simp [execOp, Rg.ev, go_sem, hv_] <;> rfl) ⟨.inl rfl, hR, Chg.refl _ _⟩
                · exact Rg.run_ok (v := .int .i64 0) (by simp [execOp, Rg.ev, go_sem, hv_] <;> rfl) ⟨.inl rfl, hR, Chg.refl _ _⟩
                · exact Rg.run_ok (v := .int .i64 0) (by simp [execOp, Rg.ev, go_sem, hv_] <;> rfl) ⟨.inl rfl, hR, Chg.refl _ _⟩
                · exact Rg.run_ok (v := .int .i64 0) (by simp [execOp, Rg.ev, go_sem, hv_] <;> rfl) ⟨.inl rfl, hR, Chg.refl _ _⟩
                · exact Rg.run_ok (v := .int .i64 1) (by simp [execOp, Rg.ev, go_sem, hv_] <;> rfl) ⟨.inr rfl, hR, Chg.refl _ _⟩
              refine ⟨Rg.at_run [52] rfl ?_, ?_⟩
              · intro ρ W hR ⟨q52, _⟩
                replace q52 : (fun v _ => v = .int .i64 0 ∨ v = .int .i64 1) (ρ 52) W := q52
                refine ⟨rfl, ?_⟩
                rcases q52 with hv_ | hv_
                · exact Rg.run_ok (v := .int .u64 0) (by simp [execOp, Rg.ev, go_sem, hv_] <;> rfl) ⟨.inl rfl, hR, Chg.refl _ _⟩
                · exact Rg.run_ok (v := .int .u64 1) (by simp [execOp, Rg.ev, go_sem, hv_] <;> rfl) ⟨.inr rfl, hR, Chg.refl _ _⟩
              refine ⟨Rg.at_run [49, 53] rfl ?_, ?_⟩
              · intro ρ W hR ⟨q49, q53, _⟩
                replace q49 : ρ 49 = .int .u64 (q + 1) := q49
                replace q53 : (fun v _ => v = .int .u64 0 ∨ v = .int .u64 1) (ρ 53) W := q53
                refine ⟨rfl, ?_⟩
                rcases q53 with hv_ | hv_
                · exact Rg.run_ok (v := .int .u64 (q + 1)) (by simp [execOp, Rg.ev, go_sem, hv_, q49, HW1]) ⟨.inl rfl, hR, Chg.refl _ _⟩
                · exact Rg.run_ok (v := .int .u64 (q + 2)) (by simp [execOp, Rg.ev, go_sem, hv_, q49, HW2]) ⟨.inr rfl, hR, Chg.refl _ _⟩
              refine ⟨Rg.at_run [7, 45] rfl ?_, ?_⟩
              · intro ρ W hR ⟨q7, q45, _⟩
                replace q7 : ρ 7 = .pointer (some ⟨gq, 0, none⟩) := q7
                replace q45 : ρ 45 = .int .i64 (r : Int) := q45
                refine ⟨rfl, ?_⟩
                exact Rg.run_ok (v := .pointer (some ⟨gq, r, none⟩)) (by simp [execOp, Rg.ev, go_sem, q7, q45, hr0, hr4, Addr.add_lit]) ⟨rfl, hR, Chg.refl _ _⟩
              trivial
            case en =>
              intro tm W hR hsz hk
              rw [Rg.fin_eq (ds := [45, 46, 47, 48, 49, 50, 51, 52, 53, 54, 55]) rfl rfl rfl hsz hk]
              have k45 : tm.getD 45 undef = .int .i64 (r : Int) := hk 45
              have k46 : tm.getD 46 undef = .int .i64 (r : Int) := hk 46
              have k47 : tm.getD 47 undef = .pointer (some ⟨gq, r, none⟩) := hk 47
              have k48 : tm.getD 48 undef = .int .u64 q := hk 48
              have k49 : tm.getD 49 undef = .int .u64 (q + 1) := hk 49
              have k50 : tm.getD 50 undef = .pointer (some ⟨g, 0, none⟩) := hk 50
              have k51 : (fun v _ => ∃ r8 : Nat, (r8 : Int) < 8 ∧ v = .int .i64 r8) (tm.getD 51 undef) W := hk 51
              have k52 : (fun v _ => v = .int .i64 0 ∨ v = .int .i64 1) (tm.getD 52 undef) W := hk 52
              have k53 : (fun v _ => v = .int .u64 0 ∨ v = .int .u64 1) (tm.getD 53 undef) W := hk 53
              have k54 : (fun v _ => v = .int .u64 (q + 1) ∨ v = .int .u64 (q + 2)) (tm.getD 54 undef) W := hk 54
              have k55 : tm.getD 55 undef = .pointer (some ⟨gq, r, none⟩) := hk 55
              clear hk hsz
              simp only [Rg.putAll, List.setIfInBounds_toArray, List.set_cons_zero, List.set_cons_succ, k45, k46, k47, k48, k49, k50, k55]
              clear k45
              clear k46
              clear k47
              clear k48
              clear k49
              clear k50
              generalize tm.getD 51 undef = u51 at *
              generalize tm.getD 52 undef = u52 at *
              generalize tm.getD 53 undef = u53 at *
              generalize tm.getD 54 undef = u54 at *
              clear k55

              obtain ⟨q', hu, hq'⟩ : ∃ q' : Int, u54 = .int .u64 q' ∧ q + 1 ≤ q' ∧ q' ≤ q + 2 := by
                rcases k54 with h | h
                · exact ⟨_, h, by omega, by omega⟩
                · exact ⟨_, h, by omega, by omega⟩
              subst hu
              clear k54
              obtain ⟨n7, hp7, hc7⟩ := hR
              have hQ7 := hQ3.chg hc7 (by simp; omega)
              have hGc7 := hGc.chg hc7 (by simp; omega)
              have hown7 := hown6.chgT hp3.blk (by decide) hc7 (fun h => cm_any h)
              have hxr7 := hxr6.then_ hc7 (by simp; omega)
              have d_ : W.cell? ⟨gq, r, none⟩ = some (.int .u64 q) := (hQ7.cell r).trans hqc
              have df_ := hQ7.frozen r
              have hcq : Chg [gq] W (W.setCell ⟨gq, r, none⟩ (.int .u64 q')) := (Chg.refl _ _).set (by simp) _
              have hQ8 := hQ7.set_ r (.int .u64 q')
              have hG8 := hGc7.chg hcq (by simp; omega)
              have hp8 := hp7.chg hcq (by simpa using fun h : g = gq => hgqg h.symm) (hx.off fun k hk => by rw [List.mem_singleton.1 hk]; exact hgqw)
              have hown8 := hown7.chgT hQ7 (by decide) hcq (fun h => cm_any h)
              have hxr8 := hxr7.then_ hcq (by simp; omega)
              simp only [List.drop_succ_cons, List.drop_zero]
              go_upto_region 12 with fail
              obtain ⟨W8, hW8⟩ : ∃ W8, W8 = W.setCell ⟨gq, r, none⟩ (.int .u64 q') := ⟨_, rfl⟩
              rw [← hW8] at hQ8 hG8 hp8 hown8 hxr8 ⊢
              clear hW8 hcq d_ df_ hQ7 hGc7 hown7 hxr7 hp7 hc7
              have hqr : (cur.setIfInBounds r (.int .u64 q'))[r]? = some (.int .u64 q') := by
                rw [Array.getElem?_setIfInBounds, if_pos rfl, if_pos (by omega)]
              have d_ : W8.cell? ⟨gq, r, none⟩ = some (.int .u64 q') := (hQ8.cell r).trans hqr
              have e1_ := (hG8.cell 1).trans rfl
              have e2_ := (hG8.cell 2).trans rfl
              have ef1 := hG8.frozen 1
              have ef2 := hG8.frozen 2
              have hcc1 : Chg [gc] W8 (W8.setCell ⟨gc, 1, none⟩ (.int .i64 (r : Int))) := (Chg.refl _ _).set (by simp) _
              have d2_ : (W8.setCell ⟨gc, 1, none⟩ (.int .i64 (r : Int))).cell? ⟨gq, r, none⟩ = some (.int .u64 q') := ((hQ8.chg hcc1 (by simp; omega)).cell r).trans hqr
              have hcc : Chg [gc] W8 ((W8.setCell ⟨gc, 1, none⟩ (.int .i64 (r : Int))).setCell ⟨gc, 2, none⟩ (.int .u64 q')) := hcc1.set (by simp) _
              have hG10 := ((hG8.set_ 1 (.int .i64 (r : Int))).set_ 2 (.int .u64 q')).drew
              have hQ10 := (hQ8.chg hcc (by simp; omega)).drew
              have hp10 := (hp8.chg hcc (by simp; omega) (hx.off fun k hk => by rw [List.mem_singleton.1 hk]; omega)).ext (Ext.rfl' _).drew'
              have hown10 := (hown8.chgF hcc (fun k h1 h2 => hgco k h1 (by simpa using h2)) (fun h => cm_any h)).ext (Ext.rfl' _).drew'
              have hxr10 := (hxr8.then_ hcc (by simp; omega)).drew'
              go_region
              all_goals
                obtain ⟨W10, hW10⟩ : ∃ W10, W10 = ((W8.setCell ⟨gc, 1, none⟩ (.int .i64 (r : Int))).setCell ⟨gc, 2, none⟩ (.int .u64 q')).drew := ⟨_, rfl⟩
                rw [← hW10] at hG10 hQ10 hp10 hown10 hxr10 ⊢
                clear hW10 hcc hcc1 hG8 hQ8 hp8 hown8 hxr8 d_ d2_ e1_ e2_ ef1 ef2
                have hG : Blk W10 gc 37 (ccells ⟨cm.kind, r, q', cm.name, cm.url, cm.till⟩) := hG10
                clear hG10
                have HC : Hid (AskC ⟨cm.kind, r, q', cm.name, cm.url, cm.till⟩) := hide ⟨hcm.k0, hcm.k1, by show (0 : Int) ≤ r; omega, hrr, by show 0 ≤ q'; omega, by show q' ≤ 1000; omega, hcm.name, hcm.url, hcm.t0, hcm.t1⟩
                have hsq : SqAt W10 gq (2 * cs.length + 2) := ⟨_, hQ10, by simp [hqs], fun j hj => by
                  by_cases hjr : r = j
                  · subst hjr; exact ⟨q', hqr, by omega, by omega⟩
                  · obtain ⟨q9, u1, u2, u3⟩ := hqa j hj
                    exact ⟨q9, by rw [Array.getElem?_setIfInBounds_ne hjr]; exact u1, u2, by omega⟩⟩
                have hxa : Ext W10 (W10.alloc (.cells (ccells ⟨cm.kind, r, q', cm.name, cm.url, cm.till⟩) 37)) := (Ext.rfl' W10).alloc' _
                have hlit : Enc.Sl cmE (W10.alloc (.cells (ccells ⟨cm.kind, r, q', cm.name, cm.url, cm.till⟩) 37)) (fun k => noneAt k ∨ (Value.slice A cs.length c).ownBlock = some k) (.slice (some ⟨W10.heap.size, 0, none⟩) 1 1) [⟨cm.kind, r, q', cm.name, cm.url, cm.till⟩] :=
                  Sl.one 37 (cm_rep HC.out.wide) _ rfl (fun h => h.elim (fun h => h) fun h => by have := (hown10.lt _ h).2; omega)
                have i0 := (hG.cell 0).trans rfl
                have i1 := (hG.cell 1).trans rfl
                have i2 := (hG.cell 2).trans rfl
                have i3 := (hG.cell 3).trans rfl
                have i4 := (hG.cell 4).trans rfl
                have i5 := (hG.cell 5).trans rfl
                go_wp2_with (at_builtin; refine wpList_own elt_cm 29 Tryz.underlying29 rfl _ _ rfl (hown10.ext hxa) rfl (hxr10.trans' hxa) (m := [⟨cm.kind, r, q', cm.name, cm.url, cm.till⟩]) (y := .slice (some ⟨W10.heap.size, 0, none⟩) 1 1) rfl hlit (fun h => h) (by simp only [List.length_cons, List.length_nil]; omega) (by simp only [List.length_cons, List.length_nil]; omega) ?_; intro l1 A1 c1 w11 hl1 hown1 hx11 hc11)
                have hl1' : l1.length = cs.length + 1 := by rw [hl1.out]; simp
                go_roundw
                case rel =>
                  refine ⟨l1, A1, c1, _, ?_, by have := HLT.out; omega, rfl, by rw [hl1']; go_num, hown1, (hp10.ext hxa).chg hc11 (fun hm => ?_) (hx.off fun k hk => (hown10.lt k (by simpa using hk)).1), ((hsq.ext hxa).chg hc11 (fun hm => ?_)).more (by omega), hx11⟩
                  · intro m hm
                    rw [hl1.out] at hm
                    rcases List.mem_append.1 hm with h | h
                    · exact hpc m h
                    · rw [List.mem_singleton.1 h]; exact HC.out
                  · exact own_blk_ne (hown10.choose_spec.1) hp10.blk (by decide) (by simpa using hm)
                  · exact own_blk_ne (hown10.choose_spec.1) hQ10 (by decide) (by simpa using hm)
                case measure => have := HLT.out; simp [intOf]; omega
          · have hl0 : (0 : Int) < cs.length := by omega
            go_wp2_with fail
            refine (pknum_b g _ b n4 cs.length _ hp4 ⟨by omega, by omega⟩).mono ?_
            rintro e w5 ⟨jj, hjj, rfl, n5, hp5, hc5⟩
            have hown5 := hown4.chgT hp4.blk (by decide) hc5 (fun h => cm_any h)
            have hsq5 := hsq4.chg hc5 (by simpa using hgqg)
            have hxr5 := hxr4.then_ hc5 (by simp; omega)
            obtain ⟨ad, cm, rfl, hm_, hbk, p0, p1, p2, p3, p4, p5, hmw⟩ := cm_at hown5.sl (k := jj) (by omega)
            have hb1 : (0 : Int) ≤ jj := by omega
            have hb2 : (jj : Int) < cs.length := hjj
            have HC : Hid (AskC cm) := hide (hpc cm (List.mem_of_getElem? hm_.out))
            have hxa : Ext w5 (w5.alloc (.cells (ccells cm) 37)) := (Ext.rfl' w5).alloc' _
            have hlit : Enc.Sl cmE (w5.alloc (.cells (ccells cm) 37)) (fun k => noneAt k ∨ (Value.slice (some ad) cs.length c).ownBlock = some k) (.slice (some ⟨w5.heap.size, 0, none⟩) 1 1) [cm] :=
              Sl.one 37 (cm_rep HC.out.wide) _ rfl (fun h => h.elim (fun h => h) fun h => by have := (hown5.lt _ h).2; omega)
            go_wp2_with (at_builtin; refine wpList_own elt_cm 29 Tryz.underlying29 rfl _ _ rfl (hown5.ext hxa) rfl (hxr5.trans' hxa) (m := [cm]) (y := .slice (some ⟨w5.heap.size, 0, none⟩) 1 1) rfl hlit (fun h => h) (by simp only [List.length_cons, List.length_nil]; omega) (by simp only [List.length_cons, List.length_nil]; omega) ?_; intro l1 A1 c1 w11 hl1 hown1 hx11 hc11)
            have hl1' : l1.length = cs.length + 1 := by rw [hl1.out]; simp
            go_roundw
            case rel =>
              refine ⟨l1, A1, c1, _, ?_, by have := HLT.out; omega, rfl, by rw [hl1']; go_num, hown1, (hp5.ext hxa).chg hc11 (fun hm => ?_) (hx.off fun k hk => (hown5.lt k (by simpa using hk)).1), ((hsq5.ext hxa).chg hc11 (fun hm => ?_)).more (by omega), hx11⟩
              · intro m hm
                rw [hl1.out] at hm
                rcases List.mem_append.1 hm with h | h
                · exact hpc m h
                · rw [List.mem_singleton.1 h]; exact HC.out
              · exact own_blk_ne (hown5.choose_spec.1) hp5.blk (by decide) (by simpa using hm)
              · obtain ⟨cur9, hq9, -⟩ := hsq5
                exact own_blk_ne (hown5.choose_spec.1) hq9 (by decide) (by simpa using hm)
            case measure => have := HLT.out; simp [intOf]; omega
        · skip
          go_wp2_with fail
          refine (pkcmd_b g _ b n4 _ hp4).mono ?_
          rintro e w5 ⟨cm, hcm, rfl, n5, hp5, hc5⟩
          have hown5 := hown4.chgT hp4.blk (by decide) hc5 (fun h => cm_any h)
          have hsq5 := hsq4.chg hc5 (by simpa using hgqg)
          have hxr5 := hxr4.then_ hc5 (by simp; omega)
          have hxa : Ext w5 (w5.alloc (.cells (ccells cm) 37)) := (Ext.rfl' w5).alloc' _
          have hGc := Blk.new w5 37 (ccells cm)
          obtain ⟨gc, hgc⟩ : ∃ g_, w5.heap.size = g_ := ⟨_, rfl⟩
          rw [hgc] at hGc
          have hgcg : g < gc := by rw [← hgc]; exact hp5.blk.lt
          have hgcq : gq < gc := by
            obtain ⟨cur, hq1, -⟩ := hsq5
            rw [← hgc]; exact hq1.lt
          have hp3 := hp5.ext hxa
          have hsq6 := hsq5.ext hxa
          have hown6 := hown5.ext hxa
          have hxr6 := hxr5.trans' hxa
          have hgco : ∀ k, (Value.slice A cs.length c).ownBlock = some k → k ≠ gc := fun k hk => by have := (hown5.lt k hk).2; omega
          go_upto_region 11 with fail
          try rw [hgc]
          obtain ⟨W3, hW3⟩ : ∃ W3, W3 = (w5.alloc (.cells (ccells cm) 37)) := ⟨_, rfl⟩
          rw [← hW3] at hp3 hsq6 hown6 hxr6 hGc ⊢
          clear hW3 hxa
          obtain ⟨cur, hQ3, hqs, hqa⟩ := hsq6
          obtain ⟨q, hqc, hq0, hq1⟩ := hqa r (by omega)
          have hr0 : (0 : Int) ≤ r := by omega
          have hr4 : (r : Int) < 4 := hrr
          have HW1 : IntKind.u64.wrap (q + 1) = q + 1 := IntWalk.u64_in _ ⟨by omega, by omega⟩
          have HW2 : IntKind.u64.wrap (q + 1 + 1) = q + 2 := by rw [show q + 1 + 1 = q + 2 by omega]; exact IntWalk.u64_in _ ⟨by omega, by omega⟩
          refine Rg.regionT Tryz.checked.mixed 67 11 (by kernel_rfl) [
            (fun x_ _ => x_ = .int .i64 (r : Int)),
            (fun x_ _ => x_ = .int .i64 (r : Int)),
            (fun x_ _ => x_ = .pointer (some ⟨gq, r, none⟩)),
            (fun x_ _ => x_ = .int .u64 q),
            (fun x_ _ => x_ = .int .u64 (q + 1)),
            (fun x_ _ => x_ = .pointer (some ⟨g, 0, none⟩)),
            (fun v _ => ∃ r8 : Nat, (r8 : Int) < 8 ∧ v = .int .i64 r8),
            (fun v _ => v = .int .i64 0 ∨ v = .int .i64 1),
            (fun v _ => v = .int .u64 0 ∨ v = .int .u64 1),
            (fun v _ => v = .int .u64 (q + 1) ∨ v = .int .u64 (q + 2)),
            (fun x_ _ => x_ = .pointer (some ⟨gq, r, none⟩))] (fun W => ∃ n5, PkAt W g (.slice Ax b.length cx) b n5 ∧ Chg [g] W3 W) (Chg [g]) rfl rfl rfl
            ?st ⟨_, hp3.ext (Ext.rfl' _).drew', (Chg.refl _ _).drew⟩ ?ob ?en
          case st => exact ⟨fun _ _ _ h _ => h, fun _ _ _ h _ => h, fun _ _ _ h _ => h, fun _ _ _ h _ => h, fun _ _ _ h _ => h, fun _ _ _ h _ => h, fun _ _ _ h _ => h, fun _ _ _ h _ => h, fun _ _ _ h _ => h, fun _ _ _ h _ => h, fun _ _ _ h _ => h, trivial⟩
          case ob =>
            refine ⟨Rg.at_run [9] rfl ?_, ?_⟩
            · intro ρ W hR ⟨q9, _⟩
              replace q9 : ρ 9 = .int .i64 (r : Int) := q9
              refine ⟨rfl, ?_⟩
              exact Rg.run_ok (v := .int .i64 (r : Int)) (by simp [execOp, Rg.ev, go_sem, q9]) ⟨rfl, hR, Chg.refl _ _⟩
            refine ⟨Rg.at_run [9] rfl ?_, ?_⟩
            · intro ρ W hR ⟨q9, _⟩
              replace q9 : ρ 9 = .int .i64 (r : Int) := q9
              refine ⟨rfl, ?_⟩
              exact Rg.run_ok (v := .int .i64 (r : Int)) (by simp [execOp, Rg.ev, go_sem, q9]) ⟨rfl, hR, Chg.refl _ _⟩
            refine ⟨Rg.at_run [7, 46] rfl ?_, ?_⟩
            · intro ρ W hR ⟨q7, q46, _⟩
              replace q7 : ρ 7 = .pointer (some ⟨gq, 0, none⟩) := q7
              replace q46 : ρ 46 = .int .i64 (r : Int) := q46
              refine ⟨rfl, ?_⟩
              exact Rg.run_ok (v := .pointer (some ⟨gq, r, none⟩)) (by simp [execOp, Rg.ev, go_sem, q7, q46, hr0, hr4, Addr.add_lit]) ⟨rfl, hR, Chg.refl _ _⟩
            refine ⟨Rg.at_run [47] rfl ?_, ?_⟩
            · intro ρ W hR ⟨q47, _⟩
              replace q47 : ρ 47 = .pointer (some ⟨gq, r, none⟩) := q47
              refine ⟨rfl, ?_⟩
              have c_ : W.cell? ⟨gq, r, none⟩ = some (.int .u64 q) := ((hQ3.chg hR.choose_spec.2 (by simp; omega)).cell r).trans hqc
              exact Rg.run_ok (v := .int .u64 q) (by simp [execOp, Rg.ev, go_sem, q47, c_]) ⟨rfl, hR, Chg.refl _ _⟩
            refine ⟨Rg.at_run [48] rfl ?_, ?_⟩
            · intro ρ W hR ⟨q48, _⟩
              replace q48 : ρ 48 = .int .u64 q := q48
              refine ⟨rfl, ?_⟩
              exact Rg.run_ok (v := .int .u64 (q + 1)) (by simp [execOp, Rg.ev, go_sem, q48, HW1]) ⟨rfl, hR, Chg.refl _ _⟩
            refine ⟨Rg.at_run [5] rfl ?_, ?_⟩
            · intro ρ W hR ⟨q5, _⟩
              replace q5 : ρ 5 = .pointer (some ⟨g, 0, none⟩) := q5
              refine ⟨rfl, ?_⟩
              exact Rg.run_ok (v := .pointer (some ⟨g, 0, none⟩)) (by simp [execOp, Rg.ev, go_sem, q5]) ⟨rfl, hR, Chg.refl _ _⟩
            refine ⟨Rg.at_run [50] rfl ?_, ?_⟩
            · intro ρ W hR ⟨q50, _⟩
              replace q50 : ρ 50 = .pointer (some ⟨g, 0, none⟩) := q50
              refine ⟨rfl, ?_⟩
              obtain ⟨n5, hp5, hc5⟩ := hR
              refine Rg.enter_fn (args := #[.pointer (some ⟨g, 0, none⟩), .int .i64 8]) rfl (by simp only [List.map_toArray, List.map_cons, List.map_nil, Rg.ev, q50]) (by kernel_rfl) ?_
              refine (pknum_b g _ b n5 8 W hp5 (by decide)).mono ?_
              rintro e_ w9 ⟨r8, h8, rfl, n6, hp6, hc6⟩
              exact ⟨_, rfl, ⟨r8, h8, rfl⟩, ⟨n6, hp6, hc5.trans hc6⟩, hc6⟩
            refine ⟨Rg.at_run [51] rfl ?_, ?_⟩
            · intro ρ W hR ⟨q51, _⟩
              replace q51 : (fun v _ => ∃ r8 : Nat, (r8 : Int) < 8 ∧ v = .int .i64 r8) (ρ 51) W := q51
              refine ⟨rfl, ?_⟩
              obtain ⟨r8, h8, hv_⟩ := q51
              have h9 : r8 = 0 ∨ r8 = 1 ∨ r8 = 2 ∨ r8 = 3 ∨ r8 = 4 ∨ r8 = 5 ∨ r8 = 6 ∨ r8 = 7 := by omega
              rcases h9 with rfl | rfl | rfl | rfl | rfl | rfl | rfl | rfl
              · exact Rg.run_ok (v := .int .i64 0) (by simp [execOp, Rg.ev, go_sem, hv_] <;> rfl) ⟨.inl rfl, hR, Chg.refl _ _⟩
              · exact Rg.run_ok (v := .int .i64 0) (by simp [execOp, Rg.ev, go_sem, hv_] <;> rfl) ⟨.inl rfl, hR, Chg.refl _ _⟩
              · exact Rg.run_ok (v := .int .i64 0) (by simp [execOp, Rg.ev, go_sem, hv_] <;> rfl) ⟨.inl rfl, hR, Chg.refl _ _⟩
              · exact Rg.run_ok (v := .int .i64 0) (by simp [execOp, Rg.ev, go_sem, hv_] <;> rfl) ⟨.inl rfl, hR, Chg.refl _ _⟩
              · exact Rg.run_ok (v := .int .i64 0) (by simp [execOp, Rg.ev, go_sem, hv_] <;> rfl) ⟨.inl rfl, hR, Chg.refl _ _⟩
              · exact Rg.run_ok (v := .int .i64 0) (by simp [execOp, Rg.ev, go_sem, hv_] <;> rfl) ⟨.inl rfl, hR, Chg.refl _ _⟩
              · exact Rg.run_ok (v := .int .i64 0) (by simp [execOp, Rg.ev, go_sem, hv_] <;> rfl) ⟨.inl rfl, hR, Chg.refl _ _⟩
              · exact Rg.run_ok (v := .int .i64 1) (by simp [execOp, Rg.ev, go_sem, hv_] <;> rfl) ⟨.inr rfl, hR, Chg.refl _ _⟩
            refine ⟨Rg.at_run [52] rfl ?_, ?_⟩
            · intro ρ W hR ⟨q52, _⟩
              replace q52 : (fun v _ => v = .int .i64 0 ∨ v = .int .i64 1) (ρ 52) W := q52
              refine ⟨rfl, ?_⟩
              rcases q52 with hv_ | hv_
              · exact Rg.run_ok (v := .int .u64 0) (by simp [execOp, Rg.ev, go_sem, hv_] <;> rfl) ⟨.inl rfl, hR, Chg.refl _ _⟩
              · exact Rg.run_ok (v := .int .u64 1) (by simp [execOp, Rg.ev, go_sem, hv_] <;> rfl) ⟨.inr rfl, hR, Chg.refl _ _⟩
            refine ⟨Rg.at_run [49, 53] rfl ?_, ?_⟩
            · intro ρ W hR ⟨q49, q53, _⟩
              replace q49 : ρ 49 = .int .u64 (q + 1) := q49
              replace q53 : (fun v _ => v = .int .u64 0 ∨ v = .int .u64 1) (ρ 53) W := q53
              refine ⟨rfl, ?_⟩
              rcases q53 with hv_ | hv_
              · exact Rg.run_ok (v := .int .u64 (q + 1)) (by simp [execOp, Rg.ev, go_sem, hv_, q49, HW1]) ⟨.inl rfl, hR, Chg.refl _ _⟩
              · exact Rg.run_ok (v := .int .u64 (q + 2)) (by simp [execOp, Rg.ev, go_sem, hv_, q49, HW2]) ⟨.inr rfl, hR, Chg.refl _ _⟩
            refine ⟨Rg.at_run [7, 45] rfl ?_, ?_⟩
            · intro ρ W hR ⟨q7, q45, _⟩
              replace q7 : ρ 7 = .pointer (some ⟨gq, 0, none⟩) := q7
              replace q45 : ρ 45 = .int .i64 (r : Int) := q45
              refine ⟨rfl, ?_⟩
              exact Rg.run_ok (v := .pointer (some ⟨gq, r, none⟩)) (by simp [execOp, Rg.ev, go_sem, q7, q45, hr0, hr4, Addr.add_lit]) ⟨rfl, hR, Chg.refl _ _⟩
            trivial
          case en =>
            intro tm W hR hsz hk
            rw [Rg.fin_eq (ds := [45, 46, 47, 48, 49, 50, 51, 52, 53, 54, 55]) rfl rfl rfl hsz hk]
            have k45 : tm.getD 45 undef = .int .i64 (r : Int) := hk 45
            have k46 : tm.getD 46 undef = .int .i64 (r : Int) := hk 46
            have k47 : tm.getD 47 undef = .pointer (some ⟨gq, r, none⟩) := hk 47
            have k48 : tm.getD 48 undef = .int .u64 q := hk 48
            have k49 : tm.getD 49 undef = .int .u64 (q + 1) := hk 49
            have k50 : tm.getD 50 undef = .pointer (some ⟨g, 0, none⟩) := hk 50
            have k51 : (fun v _ => ∃ r8 : Nat, (r8 : Int) < 8 ∧ v = .int .i64 r8) (tm.getD 51 undef) W := hk 51
            have k52 : (fun v _ => v = .int .i64 0 ∨ v = .int .i64 1) (tm.getD 52 undef) W := hk 52
            have k53 : (fun v _ => v = .int .u64 0 ∨ v = .int .u64 1) (tm.getD 53 undef) W := hk 53
            have k54 : (fun v _ => v = .int .u64 (q + 1) ∨ v = .int .u64 (q + 2)) (tm.getD 54 undef) W := hk 54
            have k55 : tm.getD 55 undef = .pointer (some ⟨gq, r, none⟩) := hk 55
            clear hk hsz
            simp only [Rg.putAll, List.setIfInBounds_toArray, List.set_cons_zero, List.set_cons_succ, k45, k46, k47, k48, k49, k50, k55]
            clear k45
            clear k46
            clear k47
            clear k48
            clear k49
            clear k50
            generalize tm.getD 51 undef = u51 at *
            generalize tm.getD 52 undef = u52 at *
            generalize tm.getD 53 undef = u53 at *
            generalize tm.getD 54 undef = u54 at *
            clear k55

            obtain ⟨q', hu, hq'⟩ : ∃ q' : Int, u54 = .int .u64 q' ∧ q + 1 ≤ q' ∧ q' ≤ q + 2 := by
              rcases k54 with h | h
              · exact ⟨_, h, by omega, by omega⟩
              · exact ⟨_, h, by omega, by omega⟩
            subst hu
            clear k54
            obtain ⟨n7, hp7, hc7⟩ := hR
            have hQ7 := hQ3.chg hc7 (by simp; omega)
            have hGc7 := hGc.chg hc7 (by simp; omega)
            have hown7 := hown6.chgT hp3.blk (by decide) hc7 (fun h => cm_any h)
            have hxr7 := hxr6.then_ hc7 (by simp; omega)
            have d_ : W.cell? ⟨gq, r, none⟩ = some (.int .u64 q) := (hQ7.cell r).trans hqc
            have df_ := hQ7.frozen r
            have hcq : Chg [gq] W (W.setCell ⟨gq, r, none⟩ (.int .u64 q')) := (Chg.refl _ _).set (by simp) _
            have hQ8 := hQ7.set_ r (.int .u64 q')
            have hG8 := hGc7.chg hcq (by simp; omega)
            have hp8 := hp7.chg hcq (by simpa using fun h : g = gq => hgqg h.symm) (hx.off fun k hk => by rw [List.mem_singleton.1 hk]; exact hgqw)
            have hown8 := hown7.chgT hQ7 (by decide) hcq (fun h => cm_any h)
            have hxr8 := hxr7.then_ hcq (by simp; omega)
            simp only [List.drop_succ_cons, List.drop_zero]
            go_upto_region 12 with fail
            obtain ⟨W8, hW8⟩ : ∃ W8, W8 = W.setCell ⟨gq, r, none⟩ (.int .u64 q') := ⟨_, rfl⟩
            rw [← hW8] at hQ8 hG8 hp8 hown8 hxr8 ⊢
            clear hW8 hcq d_ df_ hQ7 hGc7 hown7 hxr7 hp7 hc7
            have hqr : (cur.setIfInBounds r (.int .u64 q'))[r]? = some (.int .u64 q') := by
              rw [Array.getElem?_setIfInBounds, if_pos rfl, if_pos (by omega)]
            have d_ : W8.cell? ⟨gq, r, none⟩ = some (.int .u64 q') := (hQ8.cell r).trans hqr
            have e1_ := (hG8.cell 1).trans rfl
            have e2_ := (hG8.cell 2).trans rfl
            have ef1 := hG8.frozen 1
            have ef2 := hG8.frozen 2
            have hcc1 : Chg [gc] W8 (W8.setCell ⟨gc, 1, none⟩ (.int .i64 (r : Int))) := (Chg.refl _ _).set (by simp) _
            have d2_ : (W8.setCell ⟨gc, 1, none⟩ (.int .i64 (r : Int))).cell? ⟨gq, r, none⟩ = some (.int .u64 q') := ((hQ8.chg hcc1 (by simp; omega)).cell r).trans hqr
            have hcc : Chg [gc] W8 ((W8.setCell ⟨gc, 1, none⟩ (.int .i64 (r : Int))).setCell ⟨gc, 2, none⟩ (.int .u64 q')) := hcc1.set (by simp) _
            have hG10 := ((hG8.set_ 1 (.int .i64 (r : Int))).set_ 2 (.int .u64 q')).drew
            have hQ10 := (hQ8.chg hcc (by simp; omega)).drew
            have hp10 := (hp8.chg hcc (by simp; omega) (hx.off fun k hk => by rw [List.mem_singleton.1 hk]; omega)).ext (Ext.rfl' _).drew'
            have hown10 := (hown8.chgF hcc (fun k h1 h2 => hgco k h1 (by simpa using h2)) (fun h => cm_any h)).ext (Ext.rfl' _).drew'
            have hxr10 := (hxr8.then_ hcc (by simp; omega)).drew'
            go_region
            all_goals
              obtain ⟨W10, hW10⟩ : ∃ W10, W10 = ((W8.setCell ⟨gc, 1, none⟩ (.int .i64 (r : Int))).setCell ⟨gc, 2, none⟩ (.int .u64 q')).drew := ⟨_, rfl⟩
              rw [← hW10] at hG10 hQ10 hp10 hown10 hxr10 ⊢
              clear hW10 hcc hcc1 hG8 hQ8 hp8 hown8 hxr8 d_ d2_ e1_ e2_ ef1 ef2
              have hG : Blk W10 gc 37 (ccells ⟨cm.kind, r, q', cm.name, cm.url, cm.till⟩) := hG10
              clear hG10
              have HC : Hid (AskC ⟨cm.kind, r, q', cm.name, cm.url, cm.till⟩) := hide ⟨hcm.k0, hcm.k1, by show (0 : Int) ≤ r; omega, hrr, by show 0 ≤ q'; omega, by show q' ≤ 1000; omega, hcm.name, hcm.url, hcm.t0, hcm.t1⟩
              have hsq : SqAt W10 gq (2 * cs.length + 2) := ⟨_, hQ10, by simp [hqs], fun j hj => by
                by_cases hjr : r = j
                · subst hjr; exact ⟨q', hqr, by omega, by omega⟩
                · obtain ⟨q9, u1, u2, u3⟩ := hqa j hj
                  exact ⟨q9, by rw [Array.getElem?_setIfInBounds_ne hjr]; exact u1, u2, by omega⟩⟩
              have hxa : Ext W10 (W10.alloc (.cells (ccells ⟨cm.kind, r, q', cm.name, cm.url, cm.till⟩) 37)) := (Ext.rfl' W10).alloc' _
              have hlit : Enc.Sl cmE (W10.alloc (.cells (ccells ⟨cm.kind, r, q', cm.name, cm.url, cm.till⟩) 37)) (fun k => noneAt k ∨ (Value.slice A cs.length c).ownBlock = some k) (.slice (some ⟨W10.heap.size, 0, none⟩) 1 1) [⟨cm.kind, r, q', cm.name, cm.url, cm.till⟩] :=
                Sl.one 37 (cm_rep HC.out.wide) _ rfl (fun h => h.elim (fun h => h) fun h => by have := (hown10.lt _ h).2; omega)
              have i0 := (hG.cell 0).trans rfl
              have i1 := (hG.cell 1).trans rfl
              have i2 := (hG.cell 2).trans rfl
              have i3 := (hG.cell 3).trans rfl
              have i4 := (hG.cell 4).trans rfl
              have i5 := (hG.cell 5).trans rfl
              go_wp2_with (at_builtin; refine wpList_own elt_cm 29 Tryz.underlying29 rfl _ _ rfl (hown10.ext hxa) rfl (hxr10.trans' hxa) (m := [⟨cm.kind, r, q', cm.name, cm.url, cm.till⟩]) (y := .slice (some ⟨W10.heap.size, 0, none⟩) 1 1) rfl hlit (fun h => h) (by simp only [List.length_cons, List.length_nil]; omega) (by simp only [List.length_cons, List.length_nil]; omega) ?_; intro l1 A1 c1 w11 hl1 hown1 hx11 hc11)
              have hl1' : l1.length = cs.length + 1 := by rw [hl1.out]; simp
              go_roundw
              case rel =>
                refine ⟨l1, A1, c1, _, ?_, by have := HLT.out; omega, rfl, by rw [hl1']; go_num, hown1, (hp10.ext hxa).chg hc11 (fun hm => ?_) (hx.off fun k hk => (hown10.lt k (by simpa using hk)).1), ((hsq.ext hxa).chg hc11 (fun hm => ?_)).more (by omega), hx11⟩
                · intro m hm
                  rw [hl1.out] at hm
                  rcases List.mem_append.1 hm with h | h
                  · exact hpc m h
                  · rw [List.mem_singleton.1 h]; exact HC.out
                · exact own_blk_ne (hown10.choose_spec.1) hp10.blk (by decide) (by simpa using hm)
                · exact own_blk_ne (hown10.choose_spec.1) hQ10 (by decide) (by simpa using hm)
              case measure => have := HLT.out; simp [intOf]; omega
    · go_wp2
      go_ret
      exact ⟨cs, A, c, hpc, hlen, rfl, hown, hxr⟩
end Go.Proofs.YtamimdlaclglkaaGreat

