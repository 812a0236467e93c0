/- OctetBytes: what the law itself does. -/
import Derived.Test.YtniblgcliplbdaaRef1
import Derived.Test.YtniblgcliplbdaaRg
namespace Go.Proofs.Ytniblgcliplbdaa
set_option linter.unusedVariables false
set_option linter.unusedSimpArgs false
open Go.RowKit
set_option maxHeartbeats 1000000 in
theorem octetBytes_walk (x : Value) (b : Bytes) (y : Value) (s : Bytes) (w : World) (hx : Bs w x b) (hy : Bs w y s) :
    Calls Try.prog 7 #[x, y] w fun e w' => e = .returned (.bool true) ∧ Ext w w' := by
  obtain ⟨A, c, rfl, h1, h2, h3⟩ := id hx
  obtain ⟨A', c', rfl, h1', h2', h3'⟩ := id hy
  unfold maxLen at h2 h2'
  by_cases hl : (100 : Int) < b.length
  · go_enter Try.func7, Try.ntmps7
    go_wp2_with (go_at_call 20; refine (begun_b _).mono ?_; rintro e w1 ⟨rfl, hx1⟩)
    all_goals go_ret
    all_goals exact ⟨rfl, hx1⟩
  · by_cases hl2 : (100 : Int) < s.length
    · go_enter Try.func7, Try.ntmps7
      go_wp2_with (go_at_call 20; refine (begun_b _).mono ?_; rintro e w1 ⟨rfl, hx1⟩)
      all_goals go_ret
      all_goals exact ⟨rfl, hx1⟩
    · go_enter Try.func7, Try.ntmps7
      go_wp2_with (go_at_call 20; refine (begun_b _).mono ?_; rintro e w1 ⟨rfl, hx1⟩)
      refine (takeBytes_b _ b _ (by omega) (hx.ext hx1)).mono ?_
      rintro e w3 ⟨m3, A3, c3, n3, k3, hm3, rfl, hz3, hx3⟩
      go_wp2_with fail
      refine (rtakeBytes_b _ b _ (by omega) (hx.ext (hx1.trans' hx3))).mono ?_
      rintro e w4 ⟨m4, A4, c4, n4, k4, hm4, rfl, hz4, hx4⟩
      have hq := hm4.out.trans hm3.out.symm
      simp only [Prod.mk.injEq] at hq
      obtain ⟨rfl, rfl, rfl⟩ := hq
      have hx24 := (hx1.trans' hx3).trans' hx4
      clear hm3 hm4
      go_wp2_with fail
      refine Rg.region' Try.checked.mixed 59 (by kernel_rfl) [
        (fun v _ => v = .slice A b.length c),
        (fun v _ => v = .slice A' s.length c'),
        (fun v W => Bs W v (oputBytes b s)),
        (fun v _ => v = str (oputBytes b s)),
        (fun v _ => v = .slice A b.length c),
        (fun v _ => v = .slice A' s.length c'),
        (fun v W => Bs W v (oputBytes b s)),
        (fun v _ => v = str (oputBytes b s)),
        (fun v _ => v = .bool true),
        (fun v _ => v = .bool true),
        (fun v _ => v = .slice A3 m4.length c3),
        (fun v _ => v = str m4),
        (fun v _ => v = .slice A4 m4.length c4),
        (fun v _ => v = str m4),
        (fun v _ => v = .bool true),
        (fun v _ => v = .bool true),
        (fun v _ => v = .bool true),
        (fun v _ => v = .int .i64 n4),
        (fun v _ => v = .int .i64 n4),
        (fun v _ => v = .bool true),
        (fun v _ => v = .bool true),
        (fun v _ => v = .bool true),
        (fun v _ => v = .int .i64 k4),
        (fun v _ => v = .int .i64 k4),
        (fun v _ => v = .bool true),
        (fun v _ => v = .bool true),
        (fun v _ => v = .bool true)] (fun W => Ext w4 W) Ext rfl rfl
        ?st (Ext.rfl' w4).drew' ?ob ?en
      case st => exact ⟨fun _ _ _ h _ => h, fun _ _ _ h _ => h, fun _ _ _ h hx => h.ext hx, fun _ _ _ h _ => h, fun _ _ _ h _ => h, fun _ _ _ h _ => h, fun _ _ _ h hx => h.ext hx, fun _ _ _ h _ => h, fun _ _ _ h _ => h, fun _ _ _ h _ => h, fun _ _ _ h _ => h, fun _ _ _ h _ => h, fun _ _ _ h _ => h, fun _ _ _ h _ => h, fun _ _ _ h _ => h, fun _ _ _ h _ => h, fun _ _ _ h _ => h, fun _ _ _ h _ => h, fun _ _ _ h _ => h, fun _ _ _ h _ => h, fun _ _ _ h _ => h, fun _ _ _ h _ => h, fun _ _ _ h _ => h, fun _ _ _ h _ => h, fun _ _ _ h _ => h, fun _ _ _ h _ => h, fun _ _ _ h _ => h, trivial⟩
      case en =>
        intro tm W hR hsz hk
        have h4 : tm.getD 4 undef = .bool true := hk 4
        go_wp2
        go_ret
        exact ⟨congrArg Ending.returned h4, hx24.trans' hR⟩
      case ob =>
        refine ⟨Rg.at_run [0] rfl ?_, ?_⟩
        · intro ρ W hR ⟨h0, _⟩
          replace h0 : ρ 0 = .slice A b.length c := h0
          refine ⟨rfl, ?_⟩
          exact Rg.run_ok (v := .slice A b.length c) (by simp [execOp, Rg.ev, go_sem, h0]) ⟨rfl, hR, Ext.rfl' _⟩
        refine ⟨Rg.at_run [1] rfl ?_, ?_⟩
        · intro ρ W hR ⟨h1, _⟩
          replace h1 : ρ 1 = .slice A' s.length c' := h1
          refine ⟨rfl, ?_⟩
          exact Rg.run_ok (v := .slice A' s.length c') (by simp [execOp, Rg.ev, go_sem, h1]) ⟨rfl, hR, Ext.rfl' _⟩
        refine ⟨Rg.at_run [33, 34] rfl ?_, ?_⟩
        · intro ρ W hR ⟨h33, h34, _⟩
          replace h33 : ρ 33 = .slice A b.length c := h33
          replace h34 : ρ 34 = .slice A' s.length c' := h34
          refine ⟨rfl, ?_⟩
          refine Rg.run_enter (by simp [execOp, Rg.ev, go_sem, h33, h34]; exact ⟨⟨rfl, rfl⟩, rfl⟩) ?_
          refine (putBytes_b _ _ b s _ (by omega) (hx.ext (hx24.trans' hR)) (hy.ext (hx24.trans' hR))).mono ?_
          rintro e w2 ⟨m, Am, cm, hm, rfl, hz, hxx⟩
          have hm' := hm.out
          subst hm'
          exact ⟨_, rfl, hz.bs, hR.trans' hxx, hxx⟩
        refine ⟨Rg.at_run [35] rfl ?_, ?_⟩
        · intro ρ W hR ⟨h35, _⟩
          replace h35 : (fun v W => Bs W v (oputBytes b s)) (ρ 35) W := h35
          refine ⟨rfl, ?_⟩
          have hb : Bs W (ρ 35) (oputBytes b s) := h35
          have hs := run_str (P := Try.prog) hb Try.underlying35 Try.underlying5 Try.underlying9
          exact Rg.run_ok (v := str (oputBytes b s)) (by simp only [execOp, Rg.ev, Sem.run_bind, Sem.run_pure, Result.andThen_ok, hs]) ⟨rfl, hR, Ext.rfl' _⟩
        refine ⟨Rg.at_run [0] rfl ?_, ?_⟩
        · intro ρ W hR ⟨h0, _⟩
          replace h0 : ρ 0 = .slice A b.length c := h0
          refine ⟨rfl, ?_⟩
          exact Rg.run_ok (v := .slice A b.length c) (by simp [execOp, Rg.ev, go_sem, h0]) ⟨rfl, hR, Ext.rfl' _⟩
        refine ⟨Rg.at_run [1] rfl ?_, ?_⟩
        · intro ρ W hR ⟨h1, _⟩
          replace h1 : ρ 1 = .slice A' s.length c' := h1
          refine ⟨rfl, ?_⟩
          exact Rg.run_ok (v := .slice A' s.length c') (by simp [execOp, Rg.ev, go_sem, h1]) ⟨rfl, hR, Ext.rfl' _⟩
        refine ⟨Rg.at_run [37, 38] rfl ?_, ?_⟩
        · intro ρ W hR ⟨h37, h38, _⟩
          replace h37 : ρ 37 = .slice A b.length c := h37
          replace h38 : ρ 38 = .slice A' s.length c' := h38
          refine ⟨rfl, ?_⟩
          refine Rg.run_enter (by simp [execOp, Rg.ev, go_sem, h37, h38]; exact ⟨⟨rfl, rfl⟩, rfl⟩) ?_
          refine (rputBytes_b _ _ b s _ (by omega) (hx.ext (hx24.trans' hR)) (hy.ext (hx24.trans' hR))).mono ?_
          rintro e w2 ⟨m, Am, cm, hm, rfl, hz, hxx⟩
          have hm' := hm.out
          subst hm'
          exact ⟨_, rfl, hz.bs, hR.trans' hxx, hxx⟩
        refine ⟨Rg.at_run [39] rfl ?_, ?_⟩
        · intro ρ W hR ⟨h39, _⟩
          replace h39 : (fun v W => Bs W v (oputBytes b s)) (ρ 39) W := h39
          refine ⟨rfl, ?_⟩
          have hb : Bs W (ρ 39) (oputBytes b s) := h39
          have hs := run_str (P := Try.prog) hb Try.underlying35 Try.underlying5 Try.underlying9
          exact Rg.run_ok (v := str (oputBytes b s)) (by simp only [execOp, Rg.ev, Sem.run_bind, Sem.run_pure, Result.andThen_ok, hs]) ⟨rfl, hR, Ext.rfl' _⟩
        refine ⟨Rg.at_run [36, 40] rfl ?_, ?_⟩
        · intro ρ W hR ⟨h36, h40, _⟩
          replace h36 : ρ 36 = str (oputBytes b s) := h36
          replace h40 : ρ 40 = str (oputBytes b s) := h40
          refine ⟨rfl, ?_⟩
          exact Rg.run_ok (v := .bool true) (by simp [execOp, Rg.ev, go_sem, h36, h40]) ⟨rfl, hR, Ext.rfl' _⟩
        refine ⟨Rg.at_run [41] rfl ?_, ?_⟩
        · intro ρ W hR ⟨h41, _⟩
          replace h41 : ρ 41 = .bool true := h41
          refine ⟨rfl, ?_⟩
          exact Rg.run_ok (v := .bool true) (by simp [execOp, Rg.ev, go_sem, h41]) ⟨rfl, hR, Ext.rfl' _⟩
        refine ⟨Rg.at_run [5, 42] rfl ?_, ?_⟩
        · intro ρ W hR ⟨h5, h42, _⟩
          replace h5 : ρ 5 = .slice A3 m4.length c3 := h5
          replace h42 : ρ 42 = .bool true := h42
          refine ⟨by simp [Rg.wants, h42], ?_⟩
          exact Rg.run_ok (v := .slice A3 m4.length c3) (by simp [execOp, Rg.ev, go_sem, h5]) ⟨rfl, hR, Ext.rfl' _⟩
        refine ⟨Rg.at_run [43, 42] rfl ?_, ?_⟩
        · intro ρ W hR ⟨h43, h42, _⟩
          replace h43 : ρ 43 = .slice A3 m4.length c3 := h43
          replace h42 : ρ 42 = .bool true := h42
          refine ⟨by simp [Rg.wants, h42], ?_⟩
          have hb : Bs W (ρ 43) m4 := by rw [h43]; exact hz3.bs.ext (hx4.trans' hR)
          have hs := run_str (P := Try.prog) hb Try.underlying35 Try.underlying5 Try.underlying9
          exact Rg.run_ok (v := str m4) (by simp only [execOp, Rg.ev, Sem.run_bind, Sem.run_pure, Result.andThen_ok, hs]) ⟨rfl, hR, Ext.rfl' _⟩
        refine ⟨Rg.at_run [8, 42] rfl ?_, ?_⟩
        · intro ρ W hR ⟨h8, h42, _⟩
          replace h8 : ρ 8 = .slice A4 m4.length c4 := h8
          replace h42 : ρ 42 = .bool true := h42
          refine ⟨by simp [Rg.wants, h42], ?_⟩
          exact Rg.run_ok (v := .slice A4 m4.length c4) (by simp [execOp, Rg.ev, go_sem, h8]) ⟨rfl, hR, Ext.rfl' _⟩
        refine ⟨Rg.at_run [45, 42] rfl ?_, ?_⟩
        · intro ρ W hR ⟨h45, h42, _⟩
          replace h45 : ρ 45 = .slice A4 m4.length c4 := h45
          replace h42 : ρ 42 = .bool true := h42
          refine ⟨by simp [Rg.wants, h42], ?_⟩
          have hb : Bs W (ρ 45) m4 := by rw [h45]; exact hz4.bs.ext hR
          have hs := run_str (P := Try.prog) hb Try.underlying35 Try.underlying5 Try.underlying9
          exact Rg.run_ok (v := str m4) (by simp only [execOp, Rg.ev, Sem.run_bind, Sem.run_pure, Result.andThen_ok, hs]) ⟨rfl, hR, Ext.rfl' _⟩
        refine ⟨Rg.at_run [44, 46, 42] rfl ?_, ?_⟩
        · intro ρ W hR ⟨h44, h46, h42, _⟩
          replace h44 : ρ 44 = str m4 := h44
          replace h46 : ρ 46 = str m4 := h46
          replace h42 : ρ 42 = .bool true := h42
          refine ⟨by simp [Rg.wants, h42], ?_⟩
          exact Rg.run_ok (v := .bool true) (by simp [execOp, Rg.ev, go_sem, h44, h46]) ⟨rfl, hR, Ext.rfl' _⟩
        refine ⟨Rg.at_run [42, 47] rfl ?_, ?_⟩
        · intro ρ W hR ⟨h42, h47, _⟩
          replace h42 : ρ 42 = .bool true := h42
          replace h47 : ρ 47 = .bool true := h47
          refine ⟨rfl, ?_⟩
          exact Rg.run_ok (v := .bool true) (by simp [execOp, Rg.ev, go_sem, h42, h47]) ⟨rfl, hR, Ext.rfl' _⟩
        refine ⟨Rg.at_run [48] rfl ?_, ?_⟩
        · intro ρ W hR ⟨h48, _⟩
          replace h48 : ρ 48 = .bool true := h48
          refine ⟨rfl, ?_⟩
          exact Rg.run_ok (v := .bool true) (by simp [execOp, Rg.ev, go_sem, h48]) ⟨rfl, hR, Ext.rfl' _⟩
        refine ⟨Rg.at_run [6, 49] rfl ?_, ?_⟩
        · intro ρ W hR ⟨h6, h49, _⟩
          replace h6 : ρ 6 = .int .i64 n4 := h6
          replace h49 : ρ 49 = .bool true := h49
          refine ⟨by simp [Rg.wants, h49], ?_⟩
          exact Rg.run_ok (v := .int .i64 n4) (by simp [execOp, Rg.ev, go_sem, h6]) ⟨rfl, hR, Ext.rfl' _⟩
        refine ⟨Rg.at_run [9, 49] rfl ?_, ?_⟩
        · intro ρ W hR ⟨h9, h49, _⟩
          replace h9 : ρ 9 = .int .i64 n4 := h9
          replace h49 : ρ 49 = .bool true := h49
          refine ⟨by simp [Rg.wants, h49], ?_⟩
          exact Rg.run_ok (v := .int .i64 n4) (by simp [execOp, Rg.ev, go_sem, h9]) ⟨rfl, hR, Ext.rfl' _⟩
        refine ⟨Rg.at_run [50, 51, 49] rfl ?_, ?_⟩
        · intro ρ W hR ⟨h50, h51, h49, _⟩
          replace h50 : ρ 50 = .int .i64 n4 := h50
          replace h51 : ρ 51 = .int .i64 n4 := h51
          replace h49 : ρ 49 = .bool true := h49
          refine ⟨by simp [Rg.wants, h49], ?_⟩
          exact Rg.run_ok (v := .bool true) (by simp [execOp, Rg.ev, go_sem, h50, h51]) ⟨rfl, hR, Ext.rfl' _⟩
        refine ⟨Rg.at_run [49, 52] rfl ?_, ?_⟩
        · intro ρ W hR ⟨h49, h52, _⟩
          replace h49 : ρ 49 = .bool true := h49
          replace h52 : ρ 52 = .bool true := h52
          refine ⟨rfl, ?_⟩
          exact Rg.run_ok (v := .bool true) (by simp [execOp, Rg.ev, go_sem, h49, h52]) ⟨rfl, hR, Ext.rfl' _⟩
        refine ⟨Rg.at_run [53] rfl ?_, ?_⟩
        · intro ρ W hR ⟨h53, _⟩
          replace h53 : ρ 53 = .bool true := h53
          refine ⟨rfl, ?_⟩
          exact Rg.run_ok (v := .bool true) (by simp [execOp, Rg.ev, go_sem, h53]) ⟨rfl, hR, Ext.rfl' _⟩
        refine ⟨Rg.at_run [7, 54] rfl ?_, ?_⟩
        · intro ρ W hR ⟨h7, h54, _⟩
          replace h7 : ρ 7 = .int .i64 k4 := h7
          replace h54 : ρ 54 = .bool true := h54
          refine ⟨by simp [Rg.wants, h54], ?_⟩
          exact Rg.run_ok (v := .int .i64 k4) (by simp [execOp, Rg.ev, go_sem, h7]) ⟨rfl, hR, Ext.rfl' _⟩
        refine ⟨Rg.at_run [10, 54] rfl ?_, ?_⟩
        · intro ρ W hR ⟨h10, h54, _⟩
          replace h10 : ρ 10 = .int .i64 k4 := h10
          replace h54 : ρ 54 = .bool true := h54
          refine ⟨by simp [Rg.wants, h54], ?_⟩
          exact Rg.run_ok (v := .int .i64 k4) (by simp [execOp, Rg.ev, go_sem, h10]) ⟨rfl, hR, Ext.rfl' _⟩
        refine ⟨Rg.at_run [55, 56, 54] rfl ?_, ?_⟩
        · intro ρ W hR ⟨h55, h56, h54, _⟩
          replace h55 : ρ 55 = .int .i64 k4 := h55
          replace h56 : ρ 56 = .int .i64 k4 := h56
          replace h54 : ρ 54 = .bool true := h54
          refine ⟨by simp [Rg.wants, h54], ?_⟩
          exact Rg.run_ok (v := .bool true) (by simp [execOp, Rg.ev, go_sem, h55, h56]) ⟨rfl, hR, Ext.rfl' _⟩
        refine ⟨Rg.at_run [54, 57] rfl ?_, ?_⟩
        · intro ρ W hR ⟨h54, h57, _⟩
          replace h54 : ρ 54 = .bool true := h54
          replace h57 : ρ 57 = .bool true := h57
          refine ⟨rfl, ?_⟩
          exact Rg.run_ok (v := .bool true) (by simp [execOp, Rg.ev, go_sem, h54, h57]) ⟨rfl, hR, Ext.rfl' _⟩
        refine ⟨Rg.at_run [58] rfl ?_, ?_⟩
        · intro ρ W hR ⟨h58, _⟩
          replace h58 : ρ 58 = .bool true := h58
          refine ⟨rfl, ?_⟩
          exact Rg.run_ok (v := .bool true) (by simp [execOp, Rg.ev, go_sem, h58]) ⟨rfl, hR, Ext.rfl' _⟩
        trivial
end Go.Proofs.Ytniblgcliplbdaa
