/- OctetSums: what the law itself does. -/
import Derived.Test.YtniblgcliplbdaaRef1
import Derived.Test.YtniblgcliplbdaaParts
namespace Go.Proofs.Ytniblgcliplbdaa
set_option linter.unusedVariables false
set_option linter.unusedSimpArgs false
open Go.RowKit
theorem Parts.none_ (w : World) : Parts w (.slice none 0 0) [] := ⟨none, 0, [], rfl, Nat.le_refl _, by simp [maxLen], Reads.none_, fun k b h => by simp at h⟩
theorem sum0_b (w : World) : Calls Try.prog 33 #[.slice none 0 0] w fun e w' => e = .returned (.int .u32 0) ∧ Ext w w' :=
  sumv_b 0 [] (hide (by decide)) (by simp) [] rfl (by simp) _ w (Parts.none_ w)
theorem rsumv_b (S : Nat) (b : Bytes) (hS : Hid (S = Crc.sum b)) (hl : b.length ≤ 140737488355000) (ls : List Bytes) (hfl : ls.flatten = b) (hn : ls.length ≤ 140737488355000) (x : Value) (w : World) (hp : Parts w x ls) :
    Calls Try.prog 34 #[x] w fun e w' => e = .returned (.int .u32 S) ∧ Ext w w' := by
  subst hfl
  have := hS.out
  subst this
  refine (rsum_b x ls w (by rw [← lens_flatten]; exact hl) hn hp).mono ?_
  rintro e w' ⟨rfl, rfl⟩
  exact ⟨rfl, Ext.rfl' _⟩
set_option maxHeartbeats 1000000 in
theorem octetSums_walk (x : Value) (a : Bytes) (y : Value) (b : Bytes) (z : Value) (c : Bytes) (w : World) (hx : Bs w x a) (hy : Bs w y b) (hzc : Bs w z c) :
    Calls Try.prog 8 #[x, y, z] w fun e w' => e = .returned (.bool true) ∧ Ext w w' := by
  obtain ⟨A1, c1, rfl, h1, h2, h3⟩ := id hx
  obtain ⟨A2, c2, rfl, h1', h2', h3'⟩ := id hy
  obtain ⟨A3, c3, rfl, h1'', h2'', h3''⟩ := id hzc
  unfold maxLen at h2 h2' h2''
  by_cases hl : (100 : Int) < a.length
  · go_enter Try.func8, Try.ntmps8
    go_wp2_with (go_at_call 20; refine (begun_b _).mono ?_; rintro e w1 ⟨rfl, hx1⟩)
    all_goals go_ret
    all_goals exact ⟨rfl, hx1⟩
  · by_cases hl2 : (100 : Int) < b.length
    · go_enter Try.func8, Try.ntmps8
      go_wp2_with (go_at_call 20; refine (begun_b _).mono ?_; rintro e w1 ⟨rfl, hx1⟩)
      all_goals go_ret
      all_goals exact ⟨rfl, hx1⟩
    · by_cases hl3 : (100 : Int) < c.length
      · go_enter Try.func8, Try.ntmps8
        go_wp2_with (go_at_call 20; refine (begun_b _).mono ?_; rintro e w1 ⟨rfl, hx1⟩)
        all_goals go_ret
        all_goals exact ⟨rfl, hx1⟩
      · go_enter Try.func8, Try.ntmps8
        go_wp2_with (go_at_call 20; refine (begun_b _).mono ?_; rintro e w1 ⟨rfl, hx1⟩)
        refine (unframe_b _ c _ (by omega) (hzc.ext hx1)).mono ?_
        rintro e w5 ⟨m5, A5, c5, n5, k5, hm5, rfl, hz5, hx5⟩
        go_wp2_with fail
        refine (runframe_b _ c _ (by omega) (hzc.ext (hx1.trans' hx5))).mono ?_
        rintro e w6 ⟨m6, A6, c6, n6, k6, hm6, rfl, hz6, hx6⟩
        have hq := hm6.out.trans hm5.out.symm
        simp only [Prod.mk.injEq] at hq
        obtain ⟨rfl, rfl, rfl⟩ := hq
        have hx16 := (hx1.trans' hx5).trans' hx6
        clear hm5 hm6
        obtain ⟨S, hS⟩ : ∃ S, S = Crc.sum (a ++ b) := ⟨_, rfl⟩
        have HS := hide hS
        clear hS
        have hl2 : (a ++ b).length ≤ 140737488355000 := by simp only [List.length_append]; omega
        go_wp2_with fail
        refine Rg.region' Try.checked.mixed 79 (by kernel_rfl) [
          (fun v _ => v = .slice A1 a.length c1),
          (fun v _ => v = .slice A2 b.length c2),
          (fun v W => ∃ g, v = .slice (some ⟨g, 0, none⟩) 2 2 ∧ Parts W v [a, b]),
          (fun v _ => v = .int .u32 (S : Int)),
          (fun v _ => v = .slice A1 a.length c1),
          (fun v _ => v = .slice A2 b.length c2),
          (fun v W => ∃ g, v = .slice (some ⟨g, 0, none⟩) 2 2 ∧ Parts W v [a, b]),
          (fun v _ => v = .int .u32 (S : Int)),
          (fun v _ => v = .bool true),
          (fun v _ => v = .bool true),
          (fun v _ => v = .int .u32 0),
          (fun v _ => v = .bool true),
          (fun v _ => v = .bool true),
          (fun v _ => v = .bool true),
          (fun v _ => v = .slice A1 a.length c1),
          (fun v W => Bs W v (oframe a)),
          (fun v _ => v = str (oframe a)),
          (fun v _ => v = .slice A1 a.length c1),
          (fun v W => Bs W v (oframe a)),
          (fun v _ => v = str (oframe a)),
          (fun v _ => v = .bool true),
          (fun v _ => v = .bool true),
          (fun v _ => v = .bool true),
          (fun v _ => v = .slice A5 m6.length c5),
          (fun v _ => v = str m6),
          (fun v _ => v = .slice A6 m6.length c6),
          (fun v _ => v = str m6),
          (fun v _ => v = .bool true),
          (fun v _ => v = .bool true),
          (fun v _ => v = .bool true),
          (fun v _ => v = .int .i64 n6),
          (fun v _ => v = .int .i64 n6),
          (fun v _ => v = .bool true),
          (fun v _ => v = .bool true),
          (fun v _ => v = .bool true),
          (fun v _ => v = .int .i64 k6),
          (fun v _ => v = .int .i64 k6),
          (fun v _ => v = .bool true),
          (fun v _ => v = .bool true),
          (fun v _ => v = .bool true)] (fun W => Ext w6 W) Ext rfl rfl
          ?st (Ext.rfl' w6).drew' ?ob ?en
        case st => exact ⟨fun _ _ _ h _ => h, fun _ _ _ h _ => h, fun _ _ _ ⟨g, hg, hp⟩ hx => ⟨g, hg, hp.ext hx⟩, fun _ _ _ h _ => h, fun _ _ _ h _ => h, fun _ _ _ h _ => h, fun _ _ _ ⟨g, hg, hp⟩ hx => ⟨g, hg, hp.ext hx⟩, fun _ _ _ h _ => h, fun _ _ _ h _ => h, fun _ _ _ h _ => h, fun _ _ _ h _ => h, fun _ _ _ h _ => h, fun _ _ _ h _ => h, fun _ _ _ h _ => h, fun _ _ _ h _ => h, fun _ _ _ h hx => h.ext hx, fun _ _ _ h _ => h, fun _ _ _ h _ => h, fun _ _ _ h hx => h.ext hx, fun _ _ _ h _ => h, fun _ _ _ h _ => h, fun _ _ _ h _ => h, fun _ _ _ h _ => h, fun _ _ _ h _ => h, fun _ _ _ h _ => h, fun _ _ _ h _ => h, fun _ _ _ h _ => h, fun _ _ _ h _ => h, fun _ _ _ h _ => h, fun _ _ _ h _ => h, fun _ _ _ h _ => h, fun _ _ _ h _ => h, fun _ _ _ h _ => h, fun _ _ _ h _ => h, fun _ _ _ h _ => h, fun _ _ _ h _ => h, fun _ _ _ h _ => h, fun _ _ _ h _ => h, fun _ _ _ h _ => h, fun _ _ _ h _ => h, trivial⟩
        case en =>
          intro tm W hR hsz hk
          have h6 : tm.getD 6 undef = .bool true := hk 6
          go_wp2
          go_ret
          exact ⟨congrArg Ending.returned h6, hx16.trans' hR⟩
        case ob =>
          refine ⟨Rg.at_run [0] rfl ?_, ?_⟩
          · intro ρ W hR ⟨h0, _⟩
            replace h0 : ρ 0 = .slice A1 a.length c1 := h0
            refine ⟨rfl, ?_⟩
            exact Rg.run_ok (v := .slice A1 a.length c1) (by simp [execOp, Rg.ev, go_sem, h0]) ⟨rfl, hR, Ext.rfl' _⟩
          refine ⟨Rg.at_run [1] rfl ?_, ?_⟩
          · intro ρ W hR ⟨h1, _⟩
            replace h1 : ρ 1 = .slice A2 b.length c2 := h1
            refine ⟨rfl, ?_⟩
            exact Rg.run_ok (v := .slice A2 b.length c2) (by simp [execOp, Rg.ev, go_sem, h1]) ⟨rfl, hR, Ext.rfl' _⟩
          refine ⟨Rg.at_run [40, 41] rfl ?_, ?_⟩
          · intro ρ W hR ⟨h40, h41, _⟩
            replace h40 : ρ 40 = .slice A1 a.length c1 := h40
            replace h41 : ρ 41 = .slice A2 b.length c2 := h41
            refine ⟨rfl, ?_⟩
            exact Rg.run_ok (by simp [execOp, Rg.ev, go_sem, h40, h41]; rfl) ⟨⟨_, rfl, Parts.lit _ rfl (by simp [maxLen]) (bss2 (hx.ext (hx16.trans' hR)) (hy.ext (hx16.trans' hR)))⟩, hR.alloc' _, (Ext.rfl' _).alloc' _⟩
          refine ⟨Rg.at_run [42] rfl ?_, ?_⟩
          · intro ρ W hR ⟨h42, _⟩
            replace h42 : (fun v W => ∃ g, v = .slice (some ⟨g, 0, none⟩) 2 2 ∧ Parts W v [a, b]) (ρ 42) W := h42
            refine ⟨rfl, ?_⟩
            obtain ⟨g, hg, hp⟩ := h42
            refine Rg.run_enter (by simp [execOp, Rg.ev, go_sem, hg]; exact ⟨⟨rfl, rfl⟩, rfl⟩) ?_
            refine (sumv_b S (a ++ b) HS hl2 [a, b] (by simp) (by simp) _ _ (hg ▸ hp)).mono ?_
            rintro e w2 ⟨rfl, hx2⟩
            exact ⟨_, rfl, rfl, hR.trans' hx2, hx2⟩
          refine ⟨Rg.at_run [0] rfl ?_, ?_⟩
          · intro ρ W hR ⟨h0, _⟩
            replace h0 : ρ 0 = .slice A1 a.length c1 := h0
            refine ⟨rfl, ?_⟩
            exact Rg.run_ok (v := .slice A1 a.length c1) (by simp [execOp, Rg.ev, go_sem, h0]) ⟨rfl, hR, Ext.rfl' _⟩
          refine ⟨Rg.at_run [1] rfl ?_, ?_⟩
          · intro ρ W hR ⟨h1, _⟩
            replace h1 : ρ 1 = .slice A2 b.length c2 := h1
            refine ⟨rfl, ?_⟩
            exact Rg.run_ok (v := .slice A2 b.length c2) (by simp [execOp, Rg.ev, go_sem, h1]) ⟨rfl, hR, Ext.rfl' _⟩
          refine ⟨Rg.at_run [44, 45] rfl ?_, ?_⟩
          · intro ρ W hR ⟨h44, h45, _⟩
            replace h44 : ρ 44 = .slice A1 a.length c1 := h44
            replace h45 : ρ 45 = .slice A2 b.length c2 := h45
            refine ⟨rfl, ?_⟩
            exact Rg.run_ok (by simp [execOp, Rg.ev, go_sem, h44, h45]; rfl) ⟨⟨_, rfl, Parts.lit _ rfl (by simp [maxLen]) (bss2 (hx.ext (hx16.trans' hR)) (hy.ext (hx16.trans' hR)))⟩, hR.alloc' _, (Ext.rfl' _).alloc' _⟩
          refine ⟨Rg.at_run [46] rfl ?_, ?_⟩
          · intro ρ W hR ⟨h46, _⟩
            replace h46 : (fun v W => ∃ g, v = .slice (some ⟨g, 0, none⟩) 2 2 ∧ Parts W v [a, b]) (ρ 46) W := h46
            refine ⟨rfl, ?_⟩
            obtain ⟨g, hg, hp⟩ := h46
            refine Rg.run_enter (by simp [execOp, Rg.ev, go_sem, hg]; exact ⟨⟨rfl, rfl⟩, rfl⟩) ?_
            refine (rsumv_b S (a ++ b) HS hl2 [a, b] (by simp) (by simp) _ _ (hg ▸ hp)).mono ?_
            rintro e w2 ⟨rfl, hx2⟩
            exact ⟨_, rfl, rfl, hR.trans' hx2, hx2⟩
          refine ⟨Rg.at_run [43, 47] rfl ?_, ?_⟩
          · intro ρ W hR ⟨h43, h47, _⟩
            replace h43 : ρ 43 = .int .u32 (S : Int) := h43
            replace h47 : ρ 47 = .int .u32 (S : Int) := h47
            refine ⟨rfl, ?_⟩
            exact Rg.run_ok (v := .bool true) (by simp [execOp, Rg.ev, go_sem, h43, h47]) ⟨rfl, hR, Ext.rfl' _⟩
          refine ⟨Rg.at_run [48] rfl ?_, ?_⟩
          · intro ρ W hR ⟨h48, _⟩
            replace h48 : ρ 48 = .bool true := h48
            refine ⟨rfl, ?_⟩
            exact Rg.run_ok (v := .bool true) (by simp [execOp, Rg.ev, go_sem, h48]) ⟨rfl, hR, Ext.rfl' _⟩
          refine ⟨Rg.at_run [49] rfl ?_, ?_⟩
          · intro ρ W hR ⟨h49, _⟩
            replace h49 : ρ 49 = .bool true := h49
            refine ⟨by simp [Rg.wants, h49], ?_⟩
            refine Rg.run_enter (by simp [execOp, Rg.ev, go_sem]; exact ⟨⟨rfl, rfl⟩, rfl⟩) ?_
            refine (sum0_b _).mono ?_
            rintro e w2 ⟨rfl, hx2⟩
            exact ⟨_, rfl, rfl, hR.trans' hx2, hx2⟩
          refine ⟨Rg.at_run [50, 49] rfl ?_, ?_⟩
          · intro ρ W hR ⟨h50, h49, _⟩
            replace h50 : ρ 50 = .int .u32 0 := h50
            replace h49 : ρ 49 = .bool true := h49
            refine ⟨by simp [Rg.wants, h49], ?_⟩
            exact Rg.run_ok (v := .bool true) (by simp [execOp, Rg.ev, go_sem, h50]) ⟨rfl, hR, Ext.rfl' _⟩
          refine ⟨Rg.at_run [49, 51] rfl ?_, ?_⟩
          · intro ρ W hR ⟨h49, h51, _⟩
            replace h49 : ρ 49 = .bool true := h49
            replace h51 : ρ 51 = .bool true := h51
            refine ⟨rfl, ?_⟩
            exact Rg.run_ok (v := .bool true) (by simp [execOp, Rg.ev, go_sem, h49, h51]) ⟨rfl, hR, Ext.rfl' _⟩
          refine ⟨Rg.at_run [52] rfl ?_, ?_⟩
          · intro ρ W hR ⟨h52, _⟩
            replace h52 : ρ 52 = .bool true := h52
            refine ⟨rfl, ?_⟩
            exact Rg.run_ok (v := .bool true) (by simp [execOp, Rg.ev, go_sem, h52]) ⟨rfl, hR, Ext.rfl' _⟩
          refine ⟨Rg.at_run [0, 53] rfl ?_, ?_⟩
          · intro ρ W hR ⟨h0, h53, _⟩
            replace h0 : ρ 0 = .slice A1 a.length c1 := h0
            replace h53 : ρ 53 = .bool true := h53
            refine ⟨by simp [Rg.wants, h53], ?_⟩
            exact Rg.run_ok (v := .slice A1 a.length c1) (by simp [execOp, Rg.ev, go_sem, h0]) ⟨rfl, hR, Ext.rfl' _⟩
          refine ⟨Rg.at_run [54, 53] rfl ?_, ?_⟩
          · intro ρ W hR ⟨h54, h53, _⟩
            replace h54 : ρ 54 = .slice A1 a.length c1 := h54
            replace h53 : ρ 53 = .bool true := h53
            refine ⟨by simp [Rg.wants, h53], ?_⟩
            refine Rg.run_enter (by simp [execOp, Rg.ev, go_sem, h54]; exact ⟨⟨rfl, rfl⟩, rfl⟩) ?_
            refine (frame_b _ a _ (by omega) (hx.ext (hx16.trans' hR))).mono ?_
            rintro e w2 ⟨m, Am, cm, hm, rfl, hz, hxx⟩
            have hm' := hm.out
            subst hm'
            exact ⟨_, rfl, hz.bs, hR.trans' hxx, hxx⟩
          refine ⟨Rg.at_run [55, 53] rfl ?_, ?_⟩
          · intro ρ W hR ⟨h55, h53, _⟩
            replace h55 : (fun v W => Bs W v (oframe a)) (ρ 55) W := h55
            replace h53 : ρ 53 = .bool true := h53
            refine ⟨by simp [Rg.wants, h53], ?_⟩
            have hb : Bs W (ρ 55) (oframe a) := h55
            have hs := run_str (P := Try.prog) hb Try.underlying35 Try.underlying5 Try.underlying9
            exact Rg.run_ok (v := str (oframe a)) (by simp only [execOp, Rg.ev, Sem.run_bind, Sem.run_pure, Result.andThen_ok, hs]) ⟨rfl, hR, Ext.rfl' _⟩
          refine ⟨Rg.at_run [0, 53] rfl ?_, ?_⟩
          · intro ρ W hR ⟨h0, h53, _⟩
            replace h0 : ρ 0 = .slice A1 a.length c1 := h0
            replace h53 : ρ 53 = .bool true := h53
            refine ⟨by simp [Rg.wants, h53], ?_⟩
            exact Rg.run_ok (v := .slice A1 a.length c1) (by simp [execOp, Rg.ev, go_sem, h0]) ⟨rfl, hR, Ext.rfl' _⟩
          refine ⟨Rg.at_run [57, 53] rfl ?_, ?_⟩
          · intro ρ W hR ⟨h57, h53, _⟩
            replace h57 : ρ 57 = .slice A1 a.length c1 := h57
            replace h53 : ρ 53 = .bool true := h53
            refine ⟨by simp [Rg.wants, h53], ?_⟩
            refine Rg.run_enter (by simp [execOp, Rg.ev, go_sem, h57]; exact ⟨⟨rfl, rfl⟩, rfl⟩) ?_
            refine (rframe_b _ a _ (by omega) (hx.ext (hx16.trans' hR))).mono ?_
            rintro e w2 ⟨m, Am, cm, hm, rfl, hz, hxx⟩
            have hm' := hm.out
            subst hm'
            exact ⟨_, rfl, hz.bs, hR.trans' hxx, hxx⟩
          refine ⟨Rg.at_run [58, 53] rfl ?_, ?_⟩
          · intro ρ W hR ⟨h58, h53, _⟩
            replace h58 : (fun v W => Bs W v (oframe a)) (ρ 58) W := h58
            replace h53 : ρ 53 = .bool true := h53
            refine ⟨by simp [Rg.wants, h53], ?_⟩
            have hb : Bs W (ρ 58) (oframe a) := h58
            have hs := run_str (P := Try.prog) hb Try.underlying35 Try.underlying5 Try.underlying9
            exact Rg.run_ok (v := str (oframe a)) (by simp only [execOp, Rg.ev, Sem.run_bind, Sem.run_pure, Result.andThen_ok, hs]) ⟨rfl, hR, Ext.rfl' _⟩
          refine ⟨Rg.at_run [56, 59, 53] rfl ?_, ?_⟩
          · intro ρ W hR ⟨h56, h59, h53, _⟩
            replace h56 : ρ 56 = str (oframe a) := h56
            replace h59 : ρ 59 = str (oframe a) := h59
            replace h53 : ρ 53 = .bool true := h53
            refine ⟨by simp [Rg.wants, h53], ?_⟩
            exact Rg.run_ok (v := .bool true) (by simp [execOp, Rg.ev, go_sem, h56, h59]) ⟨rfl, hR, Ext.rfl' _⟩
          refine ⟨Rg.at_run [53, 60] rfl ?_, ?_⟩
          · intro ρ W hR ⟨h53, h60, _⟩
            replace h53 : ρ 53 = .bool true := h53
            replace h60 : ρ 60 = .bool true := h60
            refine ⟨rfl, ?_⟩
            exact Rg.run_ok (v := .bool true) (by simp [execOp, Rg.ev, go_sem, h53, h60]) ⟨rfl, hR, Ext.rfl' _⟩
          refine ⟨Rg.at_run [61] rfl ?_, ?_⟩
          · intro ρ W hR ⟨h61, _⟩
            replace h61 : ρ 61 = .bool true := h61
            refine ⟨rfl, ?_⟩
            exact Rg.run_ok (v := .bool true) (by simp [execOp, Rg.ev, go_sem, h61]) ⟨rfl, hR, Ext.rfl' _⟩
          refine ⟨Rg.at_run [7, 62] rfl ?_, ?_⟩
          · intro ρ W hR ⟨h7, h62, _⟩
            replace h7 : ρ 7 = .slice A5 m6.length c5 := h7
            replace h62 : ρ 62 = .bool true := h62
            refine ⟨by simp [Rg.wants, h62], ?_⟩
            exact Rg.run_ok (v := .slice A5 m6.length c5) (by simp [execOp, Rg.ev, go_sem, h7]) ⟨rfl, hR, Ext.rfl' _⟩
          refine ⟨Rg.at_run [63, 62] rfl ?_, ?_⟩
          · intro ρ W hR ⟨h63, h62, _⟩
            replace h63 : ρ 63 = .slice A5 m6.length c5 := h63
            replace h62 : ρ 62 = .bool true := h62
            refine ⟨by simp [Rg.wants, h62], ?_⟩
            have hb : Bs W (ρ 63) m6 := by rw [h63]; exact hz5.bs.ext (hx6.trans' hR)
            have hs := run_str (P := Try.prog) hb Try.underlying35 Try.underlying5 Try.underlying9
            exact Rg.run_ok (v := str m6) (by simp only [execOp, Rg.ev, Sem.run_bind, Sem.run_pure, Result.andThen_ok, hs]) ⟨rfl, hR, Ext.rfl' _⟩
          refine ⟨Rg.at_run [10, 62] rfl ?_, ?_⟩
          · intro ρ W hR ⟨h10, h62, _⟩
            replace h10 : ρ 10 = .slice A6 m6.length c6 := h10
            replace h62 : ρ 62 = .bool true := h62
            refine ⟨by simp [Rg.wants, h62], ?_⟩
            exact Rg.run_ok (v := .slice A6 m6.length c6) (by simp [execOp, Rg.ev, go_sem, h10]) ⟨rfl, hR, Ext.rfl' _⟩
          refine ⟨Rg.at_run [65, 62] rfl ?_, ?_⟩
          · intro ρ W hR ⟨h65, h62, _⟩
            replace h65 : ρ 65 = .slice A6 m6.length c6 := h65
            replace h62 : ρ 62 = .bool true := h62
            refine ⟨by simp [Rg.wants, h62], ?_⟩
            have hb : Bs W (ρ 65) m6 := by rw [h65]; exact hz6.bs.ext hR
            have hs := run_str (P := Try.prog) hb Try.underlying35 Try.underlying5 Try.underlying9
            exact Rg.run_ok (v := str m6) (by simp only [execOp, Rg.ev, Sem.run_bind, Sem.run_pure, Result.andThen_ok, hs]) ⟨rfl, hR, Ext.rfl' _⟩
          refine ⟨Rg.at_run [64, 66, 62] rfl ?_, ?_⟩
          · intro ρ W hR ⟨h64, h66, h62, _⟩
            replace h64 : ρ 64 = str m6 := h64
            replace h66 : ρ 66 = str m6 := h66
            replace h62 : ρ 62 = .bool true := h62
            refine ⟨by simp [Rg.wants, h62], ?_⟩
            exact Rg.run_ok (v := .bool true) (by simp [execOp, Rg.ev, go_sem, h64, h66]) ⟨rfl, hR, Ext.rfl' _⟩
          refine ⟨Rg.at_run [62, 67] rfl ?_, ?_⟩
          · intro ρ W hR ⟨h62, h67, _⟩
            replace h62 : ρ 62 = .bool true := h62
            replace h67 : ρ 67 = .bool true := h67
            refine ⟨rfl, ?_⟩
            exact Rg.run_ok (v := .bool true) (by simp [execOp, Rg.ev, go_sem, h62, h67]) ⟨rfl, hR, Ext.rfl' _⟩
          refine ⟨Rg.at_run [68] rfl ?_, ?_⟩
          · intro ρ W hR ⟨h68, _⟩
            replace h68 : ρ 68 = .bool true := h68
            refine ⟨rfl, ?_⟩
            exact Rg.run_ok (v := .bool true) (by simp [execOp, Rg.ev, go_sem, h68]) ⟨rfl, hR, Ext.rfl' _⟩
          refine ⟨Rg.at_run [8, 69] rfl ?_, ?_⟩
          · intro ρ W hR ⟨h8, h69, _⟩
            replace h8 : ρ 8 = .int .i64 n6 := h8
            replace h69 : ρ 69 = .bool true := h69
            refine ⟨by simp [Rg.wants, h69], ?_⟩
            exact Rg.run_ok (v := .int .i64 n6) (by simp [execOp, Rg.ev, go_sem, h8]) ⟨rfl, hR, Ext.rfl' _⟩
          refine ⟨Rg.at_run [11, 69] rfl ?_, ?_⟩
          · intro ρ W hR ⟨h11, h69, _⟩
            replace h11 : ρ 11 = .int .i64 n6 := h11
            replace h69 : ρ 69 = .bool true := h69
            refine ⟨by simp [Rg.wants, h69], ?_⟩
            exact Rg.run_ok (v := .int .i64 n6) (by simp [execOp, Rg.ev, go_sem, h11]) ⟨rfl, hR, Ext.rfl' _⟩
          refine ⟨Rg.at_run [70, 71, 69] rfl ?_, ?_⟩
          · intro ρ W hR ⟨h70, h71, h69, _⟩
            replace h70 : ρ 70 = .int .i64 n6 := h70
            replace h71 : ρ 71 = .int .i64 n6 := h71
            replace h69 : ρ 69 = .bool true := h69
            refine ⟨by simp [Rg.wants, h69], ?_⟩
            exact Rg.run_ok (v := .bool true) (by simp [execOp, Rg.ev, go_sem, h70, h71]) ⟨rfl, hR, Ext.rfl' _⟩
          refine ⟨Rg.at_run [69, 72] rfl ?_, ?_⟩
          · intro ρ W hR ⟨h69, h72, _⟩
            replace h69 : ρ 69 = .bool true := h69
            replace h72 : ρ 72 = .bool true := h72
            refine ⟨rfl, ?_⟩
            exact Rg.run_ok (v := .bool true) (by simp [execOp, Rg.ev, go_sem, h69, h72]) ⟨rfl, hR, Ext.rfl' _⟩
          refine ⟨Rg.at_run [73] rfl ?_, ?_⟩
          · intro ρ W hR ⟨h73, _⟩
            replace h73 : ρ 73 = .bool true := h73
            refine ⟨rfl, ?_⟩
            exact Rg.run_ok (v := .bool true) (by simp [execOp, Rg.ev, go_sem, h73]) ⟨rfl, hR, Ext.rfl' _⟩
          refine ⟨Rg.at_run [9, 74] rfl ?_, ?_⟩
          · intro ρ W hR ⟨h9, h74, _⟩
            replace h9 : ρ 9 = .int .i64 k6 := h9
            replace h74 : ρ 74 = .bool true := h74
            refine ⟨by simp [Rg.wants, h74], ?_⟩
            exact Rg.run_ok (v := .int .i64 k6) (by simp [execOp, Rg.ev, go_sem, h9]) ⟨rfl, hR, Ext.rfl' _⟩
          refine ⟨Rg.at_run [12, 74] rfl ?_, ?_⟩
          · intro ρ W hR ⟨h12, h74, _⟩
            replace h12 : ρ 12 = .int .i64 k6 := h12
            replace h74 : ρ 74 = .bool true := h74
            refine ⟨by simp [Rg.wants, h74], ?_⟩
            exact Rg.run_ok (v := .int .i64 k6) (by simp [execOp, Rg.ev, go_sem, h12]) ⟨rfl, hR, Ext.rfl' _⟩
          refine ⟨Rg.at_run [75, 76, 74] rfl ?_, ?_⟩
          · intro ρ W hR ⟨h75, h76, h74, _⟩
            replace h75 : ρ 75 = .int .i64 k6 := h75
            replace h76 : ρ 76 = .int .i64 k6 := h76
            replace h74 : ρ 74 = .bool true := h74
            refine ⟨by simp [Rg.wants, h74], ?_⟩
            exact Rg.run_ok (v := .bool true) (by simp [execOp, Rg.ev, go_sem, h75, h76]) ⟨rfl, hR, Ext.rfl' _⟩
          refine ⟨Rg.at_run [74, 77] rfl ?_, ?_⟩
          · intro ρ W hR ⟨h74, h77, _⟩
            replace h74 : ρ 74 = .bool true := h74
            replace h77 : ρ 77 = .bool true := h77
            refine ⟨rfl, ?_⟩
            exact Rg.run_ok (v := .bool true) (by simp [execOp, Rg.ev, go_sem, h74, h77]) ⟨rfl, hR, Ext.rfl' _⟩
          refine ⟨Rg.at_run [78] rfl ?_, ?_⟩
          · intro ρ W hR ⟨h78, _⟩
            replace h78 : ρ 78 = .bool true := h78
            refine ⟨rfl, ?_⟩
            exact Rg.run_ok (v := .bool true) (by simp [execOp, Rg.ev, go_sem, h78]) ⟨rfl, hR, Ext.rfl' _⟩
          trivial
end Go.Proofs.Ytniblgcliplbdaa
