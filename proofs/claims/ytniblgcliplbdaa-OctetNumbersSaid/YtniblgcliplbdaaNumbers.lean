/- OctetNumbers: what the law itself does. -/
import Derived.Test.YtniblgcliplbdaaTwin
namespace Go.Proofs.Ytniblgcliplbdaa
set_option linter.unusedVariables false
set_option linter.unusedSimpArgs false
open Go.RowKit
set_option maxHeartbeats 1000000 in
theorem octetNumbers_walk (x : Value) (b : Bytes) (d n : Int) (w : World) (hx : Bs w x b) (hv : 0 ≤ d ∧ d ≤ 18446744073709551615) (hn : -9223372036854775808 ≤ n ∧ n ≤ 9223372036854775807) :
    Calls Try.prog 6 #[x, .int .u64 d, .int .i64 n] w fun e w' => e = .returned (.bool true) ∧ Ext w w' := by
  obtain ⟨A, c, rfl, h1, h2, h3⟩ := id hx
  unfold maxLen at h2
  by_cases hl : (40 : Int) < b.length
  · go_enter Try.func6, Try.ntmps6
    go_wp2_with (go_at_call 20; refine (begun_b _).mono ?_; rintro e w1 ⟨rfl, hx1⟩)
    all_goals go_ret
    all_goals exact ⟨rfl, hx1⟩
  · go_enter Try.func6, Try.ntmps6
    go_wp2_with (go_at_call 20; refine (begun_b _).mono ?_; rintro e w1 ⟨rfl, hx1⟩)
    refine (twin_b _ b _ (by omega) (hx.ext hx1)).mono ?_
    rintro e w2 ⟨g, rfl, hg, ht, hx2⟩
    go_wp2_with fail
    refine (put_b _ b d n _ hv hn (by omega) (ht.bs (by omega))).mono ?_
    rintro e w3 ⟨m3, A3, c3, hm3, rfl, hz3, hx3⟩
    have hx13 := (hx1.trans' hx2).trans' hx3
    go_wp2_with fail
    refine (kept_b _ b g _ (by omega) (hx.ext hx13) (ht.ext hx3)).mono ?_
    rintro e w4 ⟨rfl, rfl⟩
    go_wp2_with fail
    obtain ⟨p, hp⟩ : ∃ p, p = (otake b n).1 := ⟨_, rfl⟩
    obtain ⟨q, hq⟩ : ∃ q, q = (otake b n).2 := ⟨_, rfl⟩
    have HT := hide (take_b _ b n w3 hn (by omega) (hx.ext hx13))
    have HR := hide (rtake_b _ b n w3 hn (by omega) (hx.ext hx13))
    rw [← hp, ← hq] at HT HR
    clear hp hq
    refine HT.out.mono ?_
    rintro e w4 ⟨rfl, rfl⟩
    go_wp2_with fail
    refine HR.out.mono ?_
    rintro e w4 ⟨rfl, rfl⟩
    clear HT HR
    go_wp2_with fail
    refine Rg.region' Try.checked.mixed 61 (by kernel_rfl) [
      (fun v _ => v = .bool true),
      (fun v _ => v = .bool true),
      (fun v _ => v = .slice A3 m3.length c3),
      (fun v _ => v = str m3),
      (fun v _ => v = .slice A b.length c),
      (fun v _ => v = .int .u64 d),
      (fun v _ => v = .int .i64 n),
      (fun v W => Bs W v m3),
      (fun v _ => v = str m3),
      (fun v _ => v = .bool true),
      (fun v _ => v = .bool true),
      (fun v _ => v = .bool true),
      (fun v _ => v = .int .u64 p),
      (fun v _ => v = .int .u64 p),
      (fun v _ => v = .bool true),
      (fun v _ => v = .bool true),
      (fun v _ => v = .bool true),
      (fun v _ => v = .int .i64 q),
      (fun v _ => v = .int .i64 q),
      (fun v _ => v = .bool true),
      (fun v _ => v = .bool true),
      (fun v _ => v = .bool true)] (fun W => Ext w3 W) Ext rfl rfl
      ?st (Ext.rfl' w3).drew' ?ob ?en
    case st => exact ⟨fun _ _ _ h _ => h, fun _ _ _ h _ => h, fun _ _ _ h _ => h, fun _ _ _ h _ => h, fun _ _ _ h _ => h, fun _ _ _ h _ => h, fun _ _ _ h _ => h, fun _ _ _ h hx => h.ext hx, fun _ _ _ h _ => h, fun _ _ _ h _ => h, fun _ _ _ h _ => h, fun _ _ _ h _ => h, fun _ _ _ h _ => h, fun _ _ _ h _ => h, fun _ _ _ h _ => h, fun _ _ _ h _ => h, fun _ _ _ h _ => h, fun _ _ _ h _ => h, fun _ _ _ h _ => h, fun _ _ _ h _ => h, fun _ _ _ h _ => h, fun _ _ _ h _ => h, trivial⟩
    case en =>
      intro tm W hR hsz hk
      have h6 : tm.getD 6 undef = .bool true := hk 6
      go_wp2
      go_ret
      exact ⟨congrArg Ending.returned h6, hx13.trans' hR⟩
    case ob =>
      refine ⟨Rg.at_run [9] rfl ?_, ?_⟩
      · intro ρ W hR ⟨h9, _⟩
        replace h9 : ρ 9 = .bool true := h9
        refine ⟨rfl, ?_⟩
        exact Rg.run_ok (v := .bool true) (by simp [execOp, Rg.ev, go_sem, h9]) ⟨rfl, hR, Ext.rfl' _⟩
      refine ⟨Rg.at_run [40] rfl ?_, ?_⟩
      · intro ρ W hR ⟨h40, _⟩
        replace h40 : ρ 40 = .bool true := h40
        refine ⟨rfl, ?_⟩
        exact Rg.run_ok (v := .bool true) (by simp [execOp, Rg.ev, go_sem, h40]) ⟨rfl, hR, Ext.rfl' _⟩
      refine ⟨Rg.at_run [8, 41] rfl ?_, ?_⟩
      · intro ρ W hR ⟨h8, h41, _⟩
        replace h8 : ρ 8 = .slice A3 m3.length c3 := h8
        replace h41 : ρ 41 = .bool true := h41
        refine ⟨by simp [Rg.wants, h41], ?_⟩
        exact Rg.run_ok (v := .slice A3 m3.length c3) (by simp [execOp, Rg.ev, go_sem, h8]) ⟨rfl, hR, Ext.rfl' _⟩
      refine ⟨Rg.at_run [42, 41] rfl ?_, ?_⟩
      · intro ρ W hR ⟨h42, h41, _⟩
        replace h42 : ρ 42 = .slice A3 m3.length c3 := h42
        replace h41 : ρ 41 = .bool true := h41
        refine ⟨by simp [Rg.wants, h41], ?_⟩
        have hb : Bs W (ρ 42) m3 := by rw [h42]; exact hz3.bs.ext hR
        have hs := run_str (P := Try.prog) hb Try.underlying35 Try.underlying5 Try.underlying9
        exact Rg.run_ok (v := str m3) (by simp only [execOp, Rg.ev, Sem.run_bind, Sem.run_pure, Result.andThen_ok, hs]) ⟨rfl, hR, Ext.rfl' _⟩
      refine ⟨Rg.at_run [0, 41] rfl ?_, ?_⟩
      · intro ρ W hR ⟨h0, h41, _⟩
        replace h0 : ρ 0 = .slice A b.length c := h0
        replace h41 : ρ 41 = .bool true := h41
        refine ⟨by simp [Rg.wants, h41], ?_⟩
        exact Rg.run_ok (v := .slice A b.length c) (by simp [execOp, Rg.ev, go_sem, h0]) ⟨rfl, hR, Ext.rfl' _⟩
      refine ⟨Rg.at_run [1, 41] rfl ?_, ?_⟩
      · intro ρ W hR ⟨h1, h41, _⟩
        replace h1 : ρ 1 = .int .u64 d := h1
        replace h41 : ρ 41 = .bool true := h41
        refine ⟨by simp [Rg.wants, h41], ?_⟩
        exact Rg.run_ok (v := .int .u64 d) (by simp [execOp, Rg.ev, go_sem, h1]) ⟨rfl, hR, Ext.rfl' _⟩
      refine ⟨Rg.at_run [2, 41] rfl ?_, ?_⟩
      · intro ρ W hR ⟨h2, h41, _⟩
        replace h2 : ρ 2 = .int .i64 n := h2
        replace h41 : ρ 41 = .bool true := h41
        refine ⟨by simp [Rg.wants, h41], ?_⟩
        exact Rg.run_ok (v := .int .i64 n) (by simp [execOp, Rg.ev, go_sem, h2]) ⟨rfl, hR, Ext.rfl' _⟩
      refine ⟨Rg.at_run [44, 45, 46, 41] rfl ?_, ?_⟩
      · intro ρ W hR ⟨h44, h45, h46, h41, _⟩
        replace h44 : ρ 44 = .slice A b.length c := h44
        replace h45 : ρ 45 = .int .u64 d := h45
        replace h46 : ρ 46 = .int .i64 n := h46
        replace h41 : ρ 41 = .bool true := h41
        refine ⟨by simp [Rg.wants, h41], ?_⟩
        refine Rg.run_enter (by simp [execOp, Rg.ev, go_sem, h44, h45, h46]; exact ⟨⟨rfl, rfl⟩, rfl⟩) ?_
        refine (rput_b _ b d n _ hv hn (by omega) (hx.ext (hx13.trans' hR))).mono ?_
        rintro e w2 ⟨m, Am, cm, hm, rfl, hz, hxx⟩
        have hm' := hm.out.trans hm3.out.symm
        subst hm'
        exact ⟨_, rfl, hz.bs, hR.trans' hxx, hxx⟩
      refine ⟨Rg.at_run [47, 41] rfl ?_, ?_⟩
      · intro ρ W hR ⟨h47, h41, _⟩
        replace h47 : (fun v W => Bs W v m3) (ρ 47) W := h47
        replace h41 : ρ 41 = .bool true := h41
        refine ⟨by simp [Rg.wants, h41], ?_⟩
        have hb : Bs W (ρ 47) m3 := h47
        have hs := run_str (P := Try.prog) hb Try.underlying35 Try.underlying5 Try.underlying9
        exact Rg.run_ok (v := str m3) (by simp only [execOp, Rg.ev, Sem.run_bind, Sem.run_pure, Result.andThen_ok, hs]) ⟨rfl, hR, Ext.rfl' _⟩
      refine ⟨Rg.at_run [43, 48, 41] rfl ?_, ?_⟩
      · intro ρ W hR ⟨h43, h48, h41, _⟩
        replace h43 : ρ 43 = str m3 := h43
        replace h48 : ρ 48 = str m3 := h48
        replace h41 : ρ 41 = .bool true := h41
        refine ⟨by simp [Rg.wants, h41], ?_⟩
        exact Rg.run_ok (v := .bool true) (by simp [execOp, Rg.ev, go_sem, h43, h48]) ⟨rfl, hR, Ext.rfl' _⟩
      refine ⟨Rg.at_run [41, 49] rfl ?_, ?_⟩
      · intro ρ W hR ⟨h41, h49, _⟩
        replace h41 : ρ 41 = .bool true := h41
        replace h49 : ρ 49 = .bool true := h49
        refine ⟨rfl, ?_⟩
        exact Rg.run_ok (v := .bool true) (by simp [execOp, Rg.ev, go_sem, h41, h49]) ⟨rfl, hR, Ext.rfl' _⟩
      refine ⟨Rg.at_run [50] rfl ?_, ?_⟩
      · intro ρ W hR ⟨h50, _⟩
        replace h50 : ρ 50 = .bool true := h50
        refine ⟨rfl, ?_⟩
        exact Rg.run_ok (v := .bool true) (by simp [execOp, Rg.ev, go_sem, h50]) ⟨rfl, hR, Ext.rfl' _⟩
      refine ⟨Rg.at_run [10, 51] rfl ?_, ?_⟩
      · intro ρ W hR ⟨h10, h51, _⟩
        replace h10 : ρ 10 = .int .u64 p := h10
        replace h51 : ρ 51 = .bool true := h51
        refine ⟨by simp [Rg.wants, h51], ?_⟩
        exact Rg.run_ok (v := .int .u64 p) (by simp [execOp, Rg.ev, go_sem, h10]) ⟨rfl, hR, Ext.rfl' _⟩
      refine ⟨Rg.at_run [12, 51] rfl ?_, ?_⟩
      · intro ρ W hR ⟨h12, h51, _⟩
        replace h12 : ρ 12 = .int .u64 p := h12
        replace h51 : ρ 51 = .bool true := h51
        refine ⟨by simp [Rg.wants, h51], ?_⟩
        exact Rg.run_ok (v := .int .u64 p) (by simp [execOp, Rg.ev, go_sem, h12]) ⟨rfl, hR, Ext.rfl' _⟩
      refine ⟨Rg.at_run [52, 53, 51] rfl ?_, ?_⟩
      · intro ρ W hR ⟨h52, h53, h51, _⟩
        replace h52 : ρ 52 = .int .u64 p := h52
        replace h53 : ρ 53 = .int .u64 p := h53
        replace h51 : ρ 51 = .bool true := h51
        refine ⟨by simp [Rg.wants, h51], ?_⟩
        exact Rg.run_ok (v := .bool true) (by simp [execOp, Rg.ev, go_sem, h52, h53]) ⟨rfl, hR, Ext.rfl' _⟩
      refine ⟨Rg.at_run [51, 54] rfl ?_, ?_⟩
      · intro ρ W hR ⟨h51, h54, _⟩
        replace h51 : ρ 51 = .bool true := h51
        replace h54 : ρ 54 = .bool true := h54
        refine ⟨rfl, ?_⟩
        exact Rg.run_ok (v := .bool true) (by simp [execOp, Rg.ev, go_sem, h51, h54]) ⟨rfl, hR, Ext.rfl' _⟩
      refine ⟨Rg.at_run [55] rfl ?_, ?_⟩
      · intro ρ W hR ⟨h55, _⟩
        replace h55 : ρ 55 = .bool true := h55
        refine ⟨rfl, ?_⟩
        exact Rg.run_ok (v := .bool true) (by simp [execOp, Rg.ev, go_sem, h55]) ⟨rfl, hR, Ext.rfl' _⟩
      refine ⟨Rg.at_run [11, 56] rfl ?_, ?_⟩
      · intro ρ W hR ⟨h11, h56, _⟩
        replace h11 : ρ 11 = .int .i64 q := h11
        replace h56 : ρ 56 = .bool true := h56
        refine ⟨by simp [Rg.wants, h56], ?_⟩
        exact Rg.run_ok (v := .int .i64 q) (by simp [execOp, Rg.ev, go_sem, h11]) ⟨rfl, hR, Ext.rfl' _⟩
      refine ⟨Rg.at_run [13, 56] rfl ?_, ?_⟩
      · intro ρ W hR ⟨h13, h56, _⟩
        replace h13 : ρ 13 = .int .i64 q := h13
        replace h56 : ρ 56 = .bool true := h56
        refine ⟨by simp [Rg.wants, h56], ?_⟩
        exact Rg.run_ok (v := .int .i64 q) (by simp [execOp, Rg.ev, go_sem, h13]) ⟨rfl, hR, Ext.rfl' _⟩
      refine ⟨Rg.at_run [57, 58, 56] rfl ?_, ?_⟩
      · intro ρ W hR ⟨h57, h58, h56, _⟩
        replace h57 : ρ 57 = .int .i64 q := h57
        replace h58 : ρ 58 = .int .i64 q := h58
        replace h56 : ρ 56 = .bool true := h56
        refine ⟨by simp [Rg.wants, h56], ?_⟩
        exact Rg.run_ok (v := .bool true) (by simp [execOp, Rg.ev, go_sem, h57, h58]) ⟨rfl, hR, Ext.rfl' _⟩
      refine ⟨Rg.at_run [56, 59] rfl ?_, ?_⟩
      · intro ρ W hR ⟨h56, h59, _⟩
        replace h56 : ρ 56 = .bool true := h56
        replace h59 : ρ 59 = .bool true := h59
        refine ⟨rfl, ?_⟩
        exact Rg.run_ok (v := .bool true) (by simp [execOp, Rg.ev, go_sem, h56, h59]) ⟨rfl, hR, Ext.rfl' _⟩
      refine ⟨Rg.at_run [60] rfl ?_, ?_⟩
      · intro ρ W hR ⟨h60, _⟩
        replace h60 : ρ 60 = .bool true := h60
        refine ⟨rfl, ?_⟩
        exact Rg.run_ok (v := .bool true) (by simp [execOp, Rg.ev, go_sem, h60]) ⟨rfl, hR, Ext.rfl' _⟩
      trivial
end Go.Proofs.Ytniblgcliplbdaa
