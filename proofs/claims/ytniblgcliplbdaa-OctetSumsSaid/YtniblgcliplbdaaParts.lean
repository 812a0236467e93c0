/- OctetParts: what the law itself does: the sum of parts is that of all together. -/
import Derived.Test.YtniblgcliplbdaaSum
import Derived.Test.YtniblgcliplbdaaRg
namespace Go.Proofs.Ytniblgcliplbdaa
set_option linter.unusedVariables false
set_option linter.unusedSimpArgs false
open Go.RowKit
theorem Parts.drew {w : World} {x : Value} {ls : List Bytes} (h : Parts w x ls) : Parts w.drew x ls := h
/-- The sum of b, however it is cut into parts. -/
theorem sumv_b (S : Nat) (b : Bytes) (hS : Hid (S = Crc.sum b)) (hl : b.length ≤ 140737488355000) (ls : List Bytes) (hfl : ls.flatten = b) (hn : ls.length ≤ 140737488355000) (x : Value) (w : World) (hp : Parts w x ls) :
    Calls Try.prog 33 #[x] w fun e w' => e = .returned (.int .u32 S) ∧ Ext w w' := by
  subst hfl
  have := hS.out
  subst this
  exact sum_b x ls w (by rw [← lens_flatten]; exact hl) hn hp
theorem sumn_b (n : Nat) (S : Nat) (b : Bytes) (hS : Hid (S = Crc.sum b)) (hl : b.length ≤ 140737488355000) (ls : List Bytes) (hfl : Hid (ls.flatten = b)) (hn : ls.length ≤ 140737488355000) (g : Nat) (w : World) (hp : Parts w (.slice (some ⟨g, 0, none⟩) n n) ls) :
    Calls Try.prog 33 #[.slice (some ⟨g, 0, none⟩) n n] w fun e w' => e = .returned (.int .u32 S) ∧ Ext w w' := sumv_b S b hS hl ls hfl.out hn _ w hp
theorem bss1 {w : World} {v1 : Value} {b1 : Bytes} (h1 : Bs w v1 b1) : ∀ (k : Nat) (b : Bytes), [b1][k]? = some b → ∃ v, [v1][k]? = some v ∧ Bs w v b := by
  intro k b hk
  rcases k with _ | k <;> simp at hk <;> subst hk
  exact ⟨_, rfl, h1⟩
theorem bss2 {w : World} {v1 v2 : Value} {b1 b2 : Bytes} (h1 : Bs w v1 b1) (h2 : Bs w v2 b2) : ∀ (k : Nat) (b : Bytes), [b1, b2][k]? = some b → ∃ v, [v1, v2][k]? = some v ∧ Bs w v b := by
  intro k b hk
  rcases k with _ | _ | k <;> simp at hk <;> subst hk
  · exact ⟨_, rfl, h1⟩
  · exact ⟨_, rfl, h2⟩
theorem bss3 {w : World} {v1 v2 v3 : Value} {b1 b2 b3 : Bytes} (h1 : Bs w v1 b1) (h2 : Bs w v2 b2) (h3 : Bs w v3 b3) : ∀ (k : Nat) (b : Bytes), [b1, b2, b3][k]? = some b → ∃ v, [v1, v2, v3][k]? = some v ∧ Bs w v b := by
  intro k b hk
  rcases k with _ | _ | _ | k <;> simp at hk <;> subst hk
  · exact ⟨_, rfl, h1⟩
  · exact ⟨_, rfl, h2⟩
  · exact ⟨_, rfl, h3⟩
theorem bss4 {w : World} {v1 v2 v3 v4 : Value} {b1 b2 b3 b4 : Bytes} (h1 : Bs w v1 b1) (h2 : Bs w v2 b2) (h3 : Bs w v3 b3) (h4 : Bs w v4 b4) : ∀ (k : Nat) (b : Bytes), [b1, b2, b3, b4][k]? = some b → ∃ v, [v1, v2, v3, v4][k]? = some v ∧ Bs w v b := by
  intro k b hk
  rcases k with _ | _ | _ | _ | k <;> simp at hk <;> subst hk
  · exact ⟨_, rfl, h1⟩
  · exact ⟨_, rfl, h2⟩
  · exact ⟨_, rfl, h3⟩
  · exact ⟨_, rfl, h4⟩
set_option maxHeartbeats 1000000 in
theorem octetParts_walk (x : Value) (b : Bytes) (i k : Int) (w : World) (hx : Bs w x b) (hi : 0 ≤ i ∧ i ≤ 255) (hk : 0 ≤ k ∧ k ≤ 255) :
    Calls Try.prog 9 #[x, .int .u8 i, .int .u8 k] w fun e w' => e = .returned (.bool true) ∧ Ext w w' := by
  obtain ⟨A, c, rfl, h1, h2, h3⟩ := id hx
  unfold maxLen at h2
  obtain ⟨i0, hi0, hz0, hz1, hz2⟩ := info_parts ti5
  by_cases hl : (100 : Int) < b.length
  · go_enter Try.func9, Try.ntmps9
    go_wp2_with (go_at_call 20; refine (begun_b _).mono ?_; rintro e w1 ⟨rfl, hx1⟩)
    go_ret
    exact ⟨rfl, hx1⟩
  · obtain ⟨X, hX⟩ := Int.eq_ofNat_of_zero_le (Int.emod_nonneg i (show (b.length : Int) + 1 ≠ 0 by omega))
    have hXl : (X : Int) < b.length + 1 := hX ▸ Int.emod_lt_of_pos i (by omega)
    obtain ⟨Y, hY⟩ := Int.eq_ofNat_of_zero_le (Int.emod_nonneg k (show (b.length : Int) - X + 1 ≠ 0 by omega))
    have hYl : (Y : Int) < b.length - X + 1 := hY ▸ Int.emod_lt_of_pos k (by omega)
    go_enter Try.func9, Try.ntmps9
    go_wp2_with (go_at_call 20; refine (begun_b _).mono ?_; rintro e w1 ⟨rfl, hx1⟩)
    obtain ⟨S, hS⟩ : ∃ S, S = Crc.sum b := ⟨_, rfl⟩
    have HS := hide hS
    clear hS
    have f1 : Hid ([b].flatten = b) := by unfold Hid; simp
    have f2 : Hid ([b, []].flatten = b) := by unfold Hid; simp
    have f3 : Hid ([b.take X, (b.drop X).take Y, b.drop (X + Y)].flatten = b) := by
      unfold Hid
      simp only [List.flatten_cons, List.flatten_nil, List.append_nil]
      rw [← List.drop_drop, List.take_append_drop, List.take_append_drop]
    have f4 : Hid ([[], b.take X, [], b.drop X].flatten = b) := by unfold Hid; simp
    have hm1 := hx.front (k := X) (by omega)
    have hm2 := hx.cut (l := X) (k := Y) (by omega)
    have hm3 := hx.rest (l := X + Y) (by omega)
    have hm4 := hx.rest (l := X) (by omega)
    have hl2 : b.length ≤ 140737488355000 := by omega
    simp only [hX]
    clear hX hY
    refine Rg.region' Try.checked.mixed 69 (by kernel_rfl) [
      (fun v _ => v = .slice A b.length c),
      (fun v _ => v = .int .i64 (X : Int)),
      (fun v _ => v = .slice A X c),
      (fun v _ => v = .slice A b.length c),
      (fun v _ => v = .int .i64 (X : Int)),
      (fun v _ => v = .int .i64 ((X : Int) + (Y : Int))),
      (fun v _ => v = .slice (cutA 1 A c X) Y (c - X)),
      (fun v _ => v = .slice A b.length c),
      (fun v _ => v = .int .i64 ((X : Int) + (Y : Int))),
      (fun v _ => v = .slice (cutA 1 A c (X + Y)) (b.length - (X + Y)) (c - (X + Y))),
      (fun v W => ∃ g, v = .slice (some ⟨g, 0, none⟩) 3 3 ∧ Parts W v [b.take X, (b.drop X).take Y, b.drop (X + Y)]),
      (fun v _ => v = .int .u32 (S : Int)),
      (fun v _ => v = .slice A b.length c),
      (fun v W => ∃ g, v = .slice (some ⟨g, 0, none⟩) 1 1 ∧ Parts W v [b]),
      (fun v _ => v = .int .u32 (S : Int)),
      (fun v _ => v = .bool true),
      (fun v _ => v = .bool true),
      (fun v _ => v = .slice A b.length c),
      (fun v W => ∃ g, v = .slice (some ⟨g, 0, none⟩) 2 2 ∧ Parts W v [b, []]),
      (fun v _ => v = .int .u32 (S : Int)),
      (fun v _ => v = .slice A b.length c),
      (fun v W => ∃ g, v = .slice (some ⟨g, 0, none⟩) 1 1 ∧ Parts W v [b]),
      (fun v _ => v = .int .u32 (S : Int)),
      (fun v _ => v = .bool true),
      (fun v _ => v = .bool true),
      (fun v _ => v = .bool true),
      (fun v _ => v = .slice A b.length c),
      (fun v _ => v = .int .i64 (X : Int)),
      (fun v _ => v = .slice A X c),
      (fun v _ => v = .slice A b.length c),
      (fun v _ => v = .int .i64 (X : Int)),
      (fun v _ => v = .slice (cutA 1 A c X) (b.length - X) (c - X)),
      (fun v W => ∃ g, v = .slice (some ⟨g, 0, none⟩) 4 4 ∧ Parts W v [[], b.take X, [], b.drop X]),
      (fun v _ => v = .int .u32 (S : Int)),
      (fun v _ => v = .slice A b.length c),
      (fun v W => ∃ g, v = .slice (some ⟨g, 0, none⟩) 1 1 ∧ Parts W v [b]),
      (fun v _ => v = .int .u32 (S : Int)),
      (fun v _ => v = .bool true),
      (fun v _ => v = .bool true),
      (fun v _ => v = .bool true)] (fun W => Ext w W) Ext rfl rfl
      ?st hx1.drew' ?ob ?en
    case st => exact ⟨fun _ _ _ h _ => h, fun _ _ _ h _ => h, fun _ _ _ h _ => h, fun _ _ _ h _ => h, fun _ _ _ h _ => h, fun _ _ _ h _ => h, fun _ _ _ h _ => h, fun _ _ _ h _ => h, fun _ _ _ h _ => h, fun _ _ _ h _ => h, fun _ _ _ ⟨g, hg, hp⟩ hx => ⟨g, hg, hp.ext hx⟩, fun _ _ _ h _ => h, fun _ _ _ h _ => h, fun _ _ _ ⟨g, hg, hp⟩ hx => ⟨g, hg, hp.ext hx⟩, fun _ _ _ h _ => h, fun _ _ _ h _ => h, fun _ _ _ h _ => h, fun _ _ _ h _ => h, fun _ _ _ ⟨g, hg, hp⟩ hx => ⟨g, hg, hp.ext hx⟩, fun _ _ _ h _ => h, fun _ _ _ h _ => h, fun _ _ _ ⟨g, hg, hp⟩ hx => ⟨g, hg, hp.ext hx⟩, fun _ _ _ h _ => h, fun _ _ _ h _ => h, fun _ _ _ h _ => h, fun _ _ _ h _ => h, fun _ _ _ h _ => h, fun _ _ _ h _ => h, fun _ _ _ h _ => h, fun _ _ _ h _ => h, fun _ _ _ h _ => h, fun _ _ _ h _ => h, fun _ _ _ ⟨g, hg, hp⟩ hx => ⟨g, hg, hp.ext hx⟩, fun _ _ _ h _ => h, fun _ _ _ h _ => h, fun _ _ _ ⟨g, hg, hp⟩ hx => ⟨g, hg, hp.ext hx⟩, fun _ _ _ h _ => h, fun _ _ _ h _ => h, fun _ _ _ h _ => h, fun _ _ _ h _ => h, trivial⟩
    case en =>
      intro tm W hR hsz hk
      have h6 : tm.getD 6 undef = .bool true := hk 6
      go_wp2
      go_ret
      exact ⟨congrArg Ending.returned h6, hR⟩
    case ob =>
      refine ⟨Rg.at_run [0] rfl ?_, ?_⟩
      · intro ρ W hR ⟨h0, _⟩
        replace h0 : ρ 0 = .slice A b.length c := h0
        refine ⟨rfl, ?_⟩
        exact Rg.run_ok (v := .slice A b.length c) (by simp [execOp, Rg.ev, go_sem, h0]) ⟨rfl, hR, Ext.rfl' _⟩
      refine ⟨Rg.at_run [7] rfl ?_, ?_⟩
      · intro ρ W hR ⟨h7, _⟩
        replace h7 : ρ 7 = .int .i64 (X : Int) := h7
        refine ⟨rfl, ?_⟩
        exact Rg.run_ok (v := .int .i64 (X : Int)) (by simp [execOp, Rg.ev, go_sem, h7]) ⟨rfl, hR, Ext.rfl' _⟩
      refine ⟨Rg.at_run [30, 31] rfl ?_, ?_⟩
      · intro ρ W hR ⟨h30, h31, _⟩
        replace h30 : ρ 30 = .slice A b.length c := h30
        replace h31 : ρ 31 = .int .i64 (X : Int) := h31
        refine ⟨rfl, ?_⟩
        have hsl := run_sl_h (P := Try.prog) (A := A) (n := b.length) (c := c) (kh := .i64) Try.underlying35 hi0 hz1 X rfl (by omega) W
        exact Rg.run_ok (v := .slice A X c) (by simp only [execOp, Rg.ev, Option.map_some, Option.map_none, Sem.run_bind, Sem.run_pure, Result.andThen_ok, h30, h31, hsl]) ⟨rfl, hR, Ext.rfl' _⟩
      refine ⟨Rg.at_run [0] rfl ?_, ?_⟩
      · intro ρ W hR ⟨h0, _⟩
        replace h0 : ρ 0 = .slice A b.length c := h0
        refine ⟨rfl, ?_⟩
        exact Rg.run_ok (v := .slice A b.length c) (by simp [execOp, Rg.ev, go_sem, h0]) ⟨rfl, hR, Ext.rfl' _⟩
      refine ⟨Rg.at_run [7] rfl ?_, ?_⟩
      · intro ρ W hR ⟨h7, _⟩
        replace h7 : ρ 7 = .int .i64 (X : Int) := h7
        refine ⟨rfl, ?_⟩
        exact Rg.run_ok (v := .int .i64 (X : Int)) (by simp [execOp, Rg.ev, go_sem, h7]) ⟨rfl, hR, Ext.rfl' _⟩
      refine ⟨Rg.at_run [8] rfl ?_, ?_⟩
      · intro ρ W hR ⟨h8, _⟩
        replace h8 : ρ 8 = .int .i64 ((X : Int) + (Y : Int)) := h8
        refine ⟨rfl, ?_⟩
        exact Rg.run_ok (v := .int .i64 ((X : Int) + (Y : Int))) (by simp [execOp, Rg.ev, go_sem, h8]) ⟨rfl, hR, Ext.rfl' _⟩
      refine ⟨Rg.at_run [33, 34, 35] rfl ?_, ?_⟩
      · intro ρ W hR ⟨h33, h34, h35, _⟩
        replace h33 : ρ 33 = .slice A b.length c := h33
        replace h34 : ρ 34 = .int .i64 (X : Int) := h34
        replace h35 : ρ 35 = .int .i64 ((X : Int) + (Y : Int)) := h35
        refine ⟨rfl, ?_⟩
        have hsl := run_sl_lh (hi := (X : Int) + (Y : Int)) (P := Try.prog) (A := A) (n := b.length) (c := c) (kl := .i64) (kh := .i64) Try.underlying35 hi0 hz1 X (X + Y) rfl (by simp) (by omega) (by omega) W
        rw [Nat.add_sub_cancel_left] at hsl
        exact Rg.run_ok (v := .slice (cutA 1 A c X) Y (c - X)) (by simp only [execOp, Rg.ev, Option.map_some, Option.map_none, Sem.run_bind, Sem.run_pure, Result.andThen_ok, h33, h34, h35, hsl]) ⟨rfl, hR, Ext.rfl' _⟩
      refine ⟨Rg.at_run [0] rfl ?_, ?_⟩
      · intro ρ W hR ⟨h0, _⟩
        replace h0 : ρ 0 = .slice A b.length c := h0
        refine ⟨rfl, ?_⟩
        exact Rg.run_ok (v := .slice A b.length c) (by simp [execOp, Rg.ev, go_sem, h0]) ⟨rfl, hR, Ext.rfl' _⟩
      refine ⟨Rg.at_run [8] rfl ?_, ?_⟩
      · intro ρ W hR ⟨h8, _⟩
        replace h8 : ρ 8 = .int .i64 ((X : Int) + (Y : Int)) := h8
        refine ⟨rfl, ?_⟩
        exact Rg.run_ok (v := .int .i64 ((X : Int) + (Y : Int))) (by simp [execOp, Rg.ev, go_sem, h8]) ⟨rfl, hR, Ext.rfl' _⟩
      refine ⟨Rg.at_run [37, 38] rfl ?_, ?_⟩
      · intro ρ W hR ⟨h37, h38, _⟩
        replace h37 : ρ 37 = .slice A b.length c := h37
        replace h38 : ρ 38 = .int .i64 ((X : Int) + (Y : Int)) := h38
        refine ⟨rfl, ?_⟩
        have hsl := run_sl_l (lo := (X : Int) + (Y : Int)) (P := Try.prog) (A := A) (n := b.length) (c := c) (kl := .i64) Try.underlying35 hi0 hz1 (X + Y) (by simp) (by omega) W
        exact Rg.run_ok (v := .slice (cutA 1 A c (X + Y)) (b.length - (X + Y)) (c - (X + Y))) (by simp only [execOp, Rg.ev, Option.map_some, Option.map_none, Sem.run_bind, Sem.run_pure, Result.andThen_ok, h37, h38, hsl]) ⟨rfl, hR, Ext.rfl' _⟩
      refine ⟨Rg.at_run [32, 36, 39] rfl ?_, ?_⟩
      · intro ρ W hR ⟨h32, h36, h39, _⟩
        replace h32 : ρ 32 = .slice A X c := h32
        replace h36 : ρ 36 = .slice (cutA 1 A c X) Y (c - X) := h36
        replace h39 : ρ 39 = .slice (cutA 1 A c (X + Y)) (b.length - (X + Y)) (c - (X + Y)) := h39
        refine ⟨rfl, ?_⟩
        exact Rg.run_ok (by simp [execOp, Rg.ev, go_sem, h32, h36, h39]; rfl) ⟨⟨_, rfl, Parts.lit _ rfl (by simp [maxLen]) (bss3 (hm1.ext hR) (hm2.ext hR) (hm3.ext hR))⟩, hR.alloc' _, (Ext.rfl' _).alloc' _⟩
      refine ⟨Rg.at_run [40] rfl ?_, ?_⟩
      · intro ρ W hR ⟨h40, _⟩
        replace h40 : (fun v W => ∃ g, v = .slice (some ⟨g, 0, none⟩) 3 3 ∧ Parts W v [b.take X, (b.drop X).take Y, b.drop (X + Y)]) (ρ 40) W := h40
        refine ⟨rfl, ?_⟩
        obtain ⟨g, hg, hp⟩ := h40
        refine Rg.run_enter (by simp [execOp, Rg.ev, go_sem, hg]; exact ⟨⟨rfl, rfl⟩, rfl⟩) ?_
        refine (sumv_b S b HS hl2 _ f3.out (by simp) _ _ (hg ▸ hp)).mono ?_
        rintro e w2 ⟨rfl, hx2⟩
        exact ⟨_, rfl, rfl, hR.trans' hx2, hx2⟩
      refine ⟨Rg.at_run [0] rfl ?_, ?_⟩
      · intro ρ W hR ⟨h0, _⟩
        replace h0 : ρ 0 = .slice A b.length c := h0
        refine ⟨rfl, ?_⟩
        exact Rg.run_ok (v := .slice A b.length c) (by simp [execOp, Rg.ev, go_sem, h0]) ⟨rfl, hR, Ext.rfl' _⟩
      refine ⟨Rg.at_run [42] rfl ?_, ?_⟩
      · intro ρ W hR ⟨h42, _⟩
        replace h42 : ρ 42 = .slice A b.length c := h42
        refine ⟨rfl, ?_⟩
        exact Rg.run_ok (by simp [execOp, Rg.ev, go_sem, h42]; rfl) ⟨⟨_, rfl, Parts.lit _ rfl (by simp [maxLen]) (bss1 (hx.ext hR))⟩, hR.alloc' _, (Ext.rfl' _).alloc' _⟩
      refine ⟨Rg.at_run [43] rfl ?_, ?_⟩
      · intro ρ W hR ⟨h43, _⟩
        replace h43 : (fun v W => ∃ g, v = .slice (some ⟨g, 0, none⟩) 1 1 ∧ Parts W v [b]) (ρ 43) W := h43
        refine ⟨rfl, ?_⟩
        obtain ⟨g, hg, hp⟩ := h43
        refine Rg.run_enter (by simp [execOp, Rg.ev, go_sem, hg]; exact ⟨⟨rfl, rfl⟩, rfl⟩) ?_
        refine (sumv_b S b HS hl2 _ f1.out (by simp) _ _ (hg ▸ hp)).mono ?_
        rintro e w2 ⟨rfl, hx2⟩
        exact ⟨_, rfl, rfl, hR.trans' hx2, hx2⟩
      refine ⟨Rg.at_run [41, 44] rfl ?_, ?_⟩
      · intro ρ W hR ⟨h41, h44, _⟩
        replace h41 : ρ 41 = .int .u32 (S : Int) := h41
        replace h44 : ρ 44 = .int .u32 (S : Int) := h44
        refine ⟨rfl, ?_⟩
        exact Rg.run_ok (v := .bool true) (by simp [execOp, Rg.ev, go_sem, h41, h44]) ⟨rfl, hR, Ext.rfl' _⟩
      refine ⟨Rg.at_run [45] rfl ?_, ?_⟩
      · intro ρ W hR ⟨h45, _⟩
        replace h45 : ρ 45 = .bool true := h45
        refine ⟨rfl, ?_⟩
        exact Rg.run_ok (v := .bool true) (by simp [execOp, Rg.ev, go_sem, h45]) ⟨rfl, hR, Ext.rfl' _⟩
      refine ⟨Rg.at_run [0, 46] rfl ?_, ?_⟩
      · intro ρ W hR ⟨h0, h46, _⟩
        replace h0 : ρ 0 = .slice A b.length c := h0
        replace h46 : ρ 46 = .bool true := h46
        refine ⟨by simp [Rg.wants, h46], ?_⟩
        exact Rg.run_ok (v := .slice A b.length c) (by simp [execOp, Rg.ev, go_sem, h0]) ⟨rfl, hR, Ext.rfl' _⟩
      refine ⟨Rg.at_run [47, 46] rfl ?_, ?_⟩
      · intro ρ W hR ⟨h47, h46, _⟩
        replace h47 : ρ 47 = .slice A b.length c := h47
        replace h46 : ρ 46 = .bool true := h46
        refine ⟨by simp [Rg.wants, h46], ?_⟩
        exact Rg.run_ok (by simp [execOp, Rg.ev, go_sem, h47]; rfl) ⟨⟨_, rfl, Parts.lit _ rfl (by simp [maxLen]) (bss2 (hx.ext hR) (Bs.nil _))⟩, hR.alloc' _, (Ext.rfl' _).alloc' _⟩
      refine ⟨Rg.at_run [48, 46] rfl ?_, ?_⟩
      · intro ρ W hR ⟨h48, h46, _⟩
        replace h48 : (fun v W => ∃ g, v = .slice (some ⟨g, 0, none⟩) 2 2 ∧ Parts W v [b, []]) (ρ 48) W := h48
        replace h46 : ρ 46 = .bool true := h46
        refine ⟨by simp [Rg.wants, h46], ?_⟩
        obtain ⟨g, hg, hp⟩ := h48
        refine Rg.run_enter (by simp [execOp, Rg.ev, go_sem, hg]; exact ⟨⟨rfl, rfl⟩, rfl⟩) ?_
        refine (sumv_b S b HS hl2 _ f2.out (by simp) _ _ (hg ▸ hp)).mono ?_
        rintro e w2 ⟨rfl, hx2⟩
        exact ⟨_, rfl, rfl, hR.trans' hx2, hx2⟩
      refine ⟨Rg.at_run [0, 46] rfl ?_, ?_⟩
      · intro ρ W hR ⟨h0, h46, _⟩
        replace h0 : ρ 0 = .slice A b.length c := h0
        replace h46 : ρ 46 = .bool true := h46
        refine ⟨by simp [Rg.wants, h46], ?_⟩
        exact Rg.run_ok (v := .slice A b.length c) (by simp [execOp, Rg.ev, go_sem, h0]) ⟨rfl, hR, Ext.rfl' _⟩
      refine ⟨Rg.at_run [50, 46] rfl ?_, ?_⟩
      · intro ρ W hR ⟨h50, h46, _⟩
        replace h50 : ρ 50 = .slice A b.length c := h50
        replace h46 : ρ 46 = .bool true := h46
        refine ⟨by simp [Rg.wants, h46], ?_⟩
        exact Rg.run_ok (by simp [execOp, Rg.ev, go_sem, h50]; rfl) ⟨⟨_, rfl, Parts.lit _ rfl (by simp [maxLen]) (bss1 (hx.ext hR))⟩, hR.alloc' _, (Ext.rfl' _).alloc' _⟩
      refine ⟨Rg.at_run [51, 46] rfl ?_, ?_⟩
      · intro ρ W hR ⟨h51, h46, _⟩
        replace h51 : (fun v W => ∃ g, v = .slice (some ⟨g, 0, none⟩) 1 1 ∧ Parts W v [b]) (ρ 51) W := h51
        replace h46 : ρ 46 = .bool true := h46
        refine ⟨by simp [Rg.wants, h46], ?_⟩
        obtain ⟨g, hg, hp⟩ := h51
        refine Rg.run_enter (by simp [execOp, Rg.ev, go_sem, hg]; exact ⟨⟨rfl, rfl⟩, rfl⟩) ?_
        refine (sumv_b S b HS hl2 _ f1.out (by simp) _ _ (hg ▸ hp)).mono ?_
        rintro e w2 ⟨rfl, hx2⟩
        exact ⟨_, rfl, rfl, hR.trans' hx2, hx2⟩
      refine ⟨Rg.at_run [49, 52, 46] rfl ?_, ?_⟩
      · intro ρ W hR ⟨h49, h52, h46, _⟩
        replace h49 : ρ 49 = .int .u32 (S : Int) := h49
        replace h52 : ρ 52 = .int .u32 (S : Int) := h52
        replace h46 : ρ 46 = .bool true := h46
        refine ⟨by simp [Rg.wants, h46], ?_⟩
        exact Rg.run_ok (v := .bool true) (by simp [execOp, Rg.ev, go_sem, h49, h52]) ⟨rfl, hR, Ext.rfl' _⟩
      refine ⟨Rg.at_run [46, 53] rfl ?_, ?_⟩
      · intro ρ W hR ⟨h46, h53, _⟩
        replace h46 : ρ 46 = .bool true := h46
        replace h53 : ρ 53 = .bool true := h53
        refine ⟨rfl, ?_⟩
        exact Rg.run_ok (v := .bool true) (by simp [execOp, Rg.ev, go_sem, h46, h53]) ⟨rfl, hR, Ext.rfl' _⟩
      refine ⟨Rg.at_run [54] rfl ?_, ?_⟩
      · intro ρ W hR ⟨h54, _⟩
        replace h54 : ρ 54 = .bool true := h54
        refine ⟨rfl, ?_⟩
        exact Rg.run_ok (v := .bool true) (by simp [execOp, Rg.ev, go_sem, h54]) ⟨rfl, hR, Ext.rfl' _⟩
      refine ⟨Rg.at_run [0, 55] rfl ?_, ?_⟩
      · intro ρ W hR ⟨h0, h55, _⟩
        replace h0 : ρ 0 = .slice A b.length c := h0
        replace h55 : ρ 55 = .bool true := h55
        refine ⟨by simp [Rg.wants, h55], ?_⟩
        exact Rg.run_ok (v := .slice A b.length c) (by simp [execOp, Rg.ev, go_sem, h0]) ⟨rfl, hR, Ext.rfl' _⟩
      refine ⟨Rg.at_run [7, 55] rfl ?_, ?_⟩
      · intro ρ W hR ⟨h7, h55, _⟩
        replace h7 : ρ 7 = .int .i64 (X : Int) := h7
        replace h55 : ρ 55 = .bool true := h55
        refine ⟨by simp [Rg.wants, h55], ?_⟩
        exact Rg.run_ok (v := .int .i64 (X : Int)) (by simp [execOp, Rg.ev, go_sem, h7]) ⟨rfl, hR, Ext.rfl' _⟩
      refine ⟨Rg.at_run [56, 57, 55] rfl ?_, ?_⟩
      · intro ρ W hR ⟨h56, h57, h55, _⟩
        replace h56 : ρ 56 = .slice A b.length c := h56
        replace h57 : ρ 57 = .int .i64 (X : Int) := h57
        replace h55 : ρ 55 = .bool true := h55
        refine ⟨by simp [Rg.wants, h55], ?_⟩
        have hsl := run_sl_h (P := Try.prog) (A := A) (n := b.length) (c := c) (kh := .i64) Try.underlying35 hi0 hz1 X rfl (by omega) W
        exact Rg.run_ok (v := .slice A X c) (by simp only [execOp, Rg.ev, Option.map_some, Option.map_none, Sem.run_bind, Sem.run_pure, Result.andThen_ok, h56, h57, hsl]) ⟨rfl, hR, Ext.rfl' _⟩
      refine ⟨Rg.at_run [0, 55] rfl ?_, ?_⟩
      · intro ρ W hR ⟨h0, h55, _⟩
        replace h0 : ρ 0 = .slice A b.length c := h0
        replace h55 : ρ 55 = .bool true := h55
        refine ⟨by simp [Rg.wants, h55], ?_⟩
        exact Rg.run_ok (v := .slice A b.length c) (by simp [execOp, Rg.ev, go_sem, h0]) ⟨rfl, hR, Ext.rfl' _⟩
      refine ⟨Rg.at_run [7, 55] rfl ?_, ?_⟩
      · intro ρ W hR ⟨h7, h55, _⟩
        replace h7 : ρ 7 = .int .i64 (X : Int) := h7
        replace h55 : ρ 55 = .bool true := h55
        refine ⟨by simp [Rg.wants, h55], ?_⟩
        exact Rg.run_ok (v := .int .i64 (X : Int)) (by simp [execOp, Rg.ev, go_sem, h7]) ⟨rfl, hR, Ext.rfl' _⟩
      refine ⟨Rg.at_run [59, 60, 55] rfl ?_, ?_⟩
      · intro ρ W hR ⟨h59, h60, h55, _⟩
        replace h59 : ρ 59 = .slice A b.length c := h59
        replace h60 : ρ 60 = .int .i64 (X : Int) := h60
        replace h55 : ρ 55 = .bool true := h55
        refine ⟨by simp [Rg.wants, h55], ?_⟩
        have hsl := run_sl_l (P := Try.prog) (A := A) (n := b.length) (c := c) (kl := .i64) Try.underlying35 hi0 hz1 X rfl (by omega) W
        exact Rg.run_ok (v := .slice (cutA 1 A c X) (b.length - X) (c - X)) (by simp only [execOp, Rg.ev, Option.map_some, Option.map_none, Sem.run_bind, Sem.run_pure, Result.andThen_ok, h59, h60, hsl]) ⟨rfl, hR, Ext.rfl' _⟩
      refine ⟨Rg.at_run [58, 61, 55] rfl ?_, ?_⟩
      · intro ρ W hR ⟨h58, h61, h55, _⟩
        replace h58 : ρ 58 = .slice A X c := h58
        replace h61 : ρ 61 = .slice (cutA 1 A c X) (b.length - X) (c - X) := h61
        replace h55 : ρ 55 = .bool true := h55
        refine ⟨by simp [Rg.wants, h55], ?_⟩
        exact Rg.run_ok (by simp [execOp, Rg.ev, go_sem, h58, h61]; rfl) ⟨⟨_, rfl, Parts.lit _ rfl (by simp [maxLen]) (bss4 (Bs.nil _) (hm1.ext hR) (Bs.nil _) (hm4.ext hR))⟩, hR.alloc' _, (Ext.rfl' _).alloc' _⟩
      refine ⟨Rg.at_run [62, 55] rfl ?_, ?_⟩
      · intro ρ W hR ⟨h62, h55, _⟩
        replace h62 : (fun v W => ∃ g, v = .slice (some ⟨g, 0, none⟩) 4 4 ∧ Parts W v [[], b.take X, [], b.drop X]) (ρ 62) W := h62
        replace h55 : ρ 55 = .bool true := h55
        refine ⟨by simp [Rg.wants, h55], ?_⟩
        obtain ⟨g, hg, hp⟩ := h62
        refine Rg.run_enter (by simp [execOp, Rg.ev, go_sem, hg]; exact ⟨⟨rfl, rfl⟩, rfl⟩) ?_
        refine (sumv_b S b HS hl2 _ f4.out (by simp) _ _ (hg ▸ hp)).mono ?_
        rintro e w2 ⟨rfl, hx2⟩
        exact ⟨_, rfl, rfl, hR.trans' hx2, hx2⟩
      refine ⟨Rg.at_run [0, 55] rfl ?_, ?_⟩
      · intro ρ W hR ⟨h0, h55, _⟩
        replace h0 : ρ 0 = .slice A b.length c := h0
        replace h55 : ρ 55 = .bool true := h55
        refine ⟨by simp [Rg.wants, h55], ?_⟩
        exact Rg.run_ok (v := .slice A b.length c) (by simp [execOp, Rg.ev, go_sem, h0]) ⟨rfl, hR, Ext.rfl' _⟩
      refine ⟨Rg.at_run [64, 55] rfl ?_, ?_⟩
      · intro ρ W hR ⟨h64, h55, _⟩
        replace h64 : ρ 64 = .slice A b.length c := h64
        replace h55 : ρ 55 = .bool true := h55
        refine ⟨by simp [Rg.wants, h55], ?_⟩
        exact Rg.run_ok (by simp [execOp, Rg.ev, go_sem, h64]; rfl) ⟨⟨_, rfl, Parts.lit _ rfl (by simp [maxLen]) (bss1 (hx.ext hR))⟩, hR.alloc' _, (Ext.rfl' _).alloc' _⟩
      refine ⟨Rg.at_run [65, 55] rfl ?_, ?_⟩
      · intro ρ W hR ⟨h65, h55, _⟩
        replace h65 : (fun v W => ∃ g, v = .slice (some ⟨g, 0, none⟩) 1 1 ∧ Parts W v [b]) (ρ 65) W := h65
        replace h55 : ρ 55 = .bool true := h55
        refine ⟨by simp [Rg.wants, h55], ?_⟩
        obtain ⟨g, hg, hp⟩ := h65
        refine Rg.run_enter (by simp [execOp, Rg.ev, go_sem, hg]; exact ⟨⟨rfl, rfl⟩, rfl⟩) ?_
        refine (sumv_b S b HS hl2 _ f1.out (by simp) _ _ (hg ▸ hp)).mono ?_
        rintro e w2 ⟨rfl, hx2⟩
        exact ⟨_, rfl, rfl, hR.trans' hx2, hx2⟩
      refine ⟨Rg.at_run [63, 66, 55] rfl ?_, ?_⟩
      · intro ρ W hR ⟨h63, h66, h55, _⟩
        replace h63 : ρ 63 = .int .u32 (S : Int) := h63
        replace h66 : ρ 66 = .int .u32 (S : Int) := h66
        replace h55 : ρ 55 = .bool true := h55
        refine ⟨by simp [Rg.wants, h55], ?_⟩
        exact Rg.run_ok (v := .bool true) (by simp [execOp, Rg.ev, go_sem, h63, h66]) ⟨rfl, hR, Ext.rfl' _⟩
      refine ⟨Rg.at_run [55, 67] rfl ?_, ?_⟩
      · intro ρ W hR ⟨h55, h67, _⟩
        replace h55 : ρ 55 = .bool true := h55
        replace h67 : ρ 67 = .bool true := h67
        refine ⟨rfl, ?_⟩
        exact Rg.run_ok (v := .bool true) (by simp [execOp, Rg.ev, go_sem, h55, h67]) ⟨rfl, hR, Ext.rfl' _⟩
      refine ⟨Rg.at_run [68] rfl ?_, ?_⟩
      · intro ρ W hR ⟨h68, _⟩
        replace h68 : ρ 68 = .bool true := h68
        refine ⟨rfl, ?_⟩
        exact Rg.run_ok (v := .bool true) (by simp [execOp, Rg.ev, go_sem, h68]) ⟨rfl, hR, Ext.rfl' _⟩
      trivial
end Go.Proofs.Ytniblgcliplbdaa
