/- shortcutlaw0.Spoil: what it is handed is written over. -/
import Derived.Test.YtlhokicnedkieaaTwin
import Derived.Test.YtlhokicnedkieaaChg
namespace Go.Proofs.Ytlhokicnedkieaa
set_option linter.unusedVariables false
set_option linter.unusedSimpArgs false
set_option linter.unnecessarySimpa false
set_option maxRecDepth 100000
open Go.RowKit
set_option maxHeartbeats 1600000 in
theorem spoil_blk (g n c : Nat) (cur : Array Value) (w : World) (hB : Blk w g 5 cur) (hs : cur.size = c) (hn : n ≤ c) (hc : c ≤ maxLen) :
    Calls Try.prog 56 #[.slice (some ⟨g, 0, none⟩) n c] w fun e w' => e = .returned (.tuple #[]) ∧ Chg [g] w w' := by
  unfold maxLen at hc
  have HS := hide hs
  clear hs
  go_enter Try.func56, Try.ntmps56
  go_wp2
  go_loopw [3] (fun i wr => ∃ (k : Nat) (cur' : Array Value), (k : Int) ≤ c ∧ i = .int .i64 k ∧ Blk wr g 5 cur' ∧ Hid (cur'.size = c) ∧ Chg [g] w wr) (fun i _ => (c - intOf i).toNat)
  case atStart => exact ⟨0, cur, by omega, rfl, hB, HS, Chg.refl _ _⟩
  case round =>
    obtain ⟨k, cur', hk, rfl, hb, hsz, hx⟩ := hrel
    by_cases hlt : (k : Int) < c
    · obtain ⟨u, hu⟩ : ∃ u, cur'[k]? = some u := ⟨cur'[k]'(by have := hsz.out; omega), by simp⟩
      have hcell : wr.cell? ⟨g, k, none⟩ = some u := (hb.cell k).trans hu
      have hfr := hb.frozen k
      clear hu
      go_wp2
      exact ⟨⟨k + 1, _, by omega, by go_num, hb.set_ k _, hide (by simpa using hsz.out), hx.set (by simp) _⟩, by simp [intOf]; omega⟩
    · go_wp2
      go_end0
      exact ⟨rfl, hx⟩
theorem spoil_nil (w : World) : Calls Try.prog 56 #[.slice none 0 0] w fun e w' => e = .returned (.tuple #[]) ∧ w = w' := by
  go_enter Try.func56, Try.ntmps56
  go_wp2
  go_loop [3] (fun i => i = .int .i64 0) (fun _ => 0)
  case atStart => rfl
  case round =>
    obtain rfl := hrel
    go_wp2
    go_end0
    exact ⟨rfl, rfl⟩
theorem spoil_twin (g : Nat) (b : Bytes) (w : World) (hl : b.length ≤ 140737488355000) (h : IsTwin w g b) :
    Calls Try.prog 56 #[.slice (some ⟨g, 0, none⟩) b.length (b.length + 3)] w fun e w' => e = .returned (.tuple #[]) ∧ Chg [g] w w' :=
  spoil_blk g _ _ _ w h (by simp [twin]) (by omega) (by simp [maxLen]; omega)
/-- what is new memory is written over: nothing that stood there ahead of it is -/
theorem spoil_nw (w0 w : World) (v : Value) (l : Bytes) (h : Nw w0 w v l) :
    Calls Try.prog 56 #[v] w fun e w' => e = .returned (.tuple #[]) ∧ ∃ S, Chg S w w' ∧ ∀ k, k ∈ S → v.ownBlock = some k := by
  rcases h.2 with ⟨rfl, _⟩ | ⟨g, cap, cur, rfl, hg, hh, h1, h2, h3, _⟩
  · exact (spoil_nil w).mono fun e w' ⟨he, hw⟩ => ⟨he, [], by subst hw; exact Chg.refl _ _, by simp⟩
  · exact (spoil_blk g _ cap cur w hh (by simpa using h3) h1 h2).mono fun e w' ⟨he, hc⟩ => ⟨he, [g], hc, by simp [Value.ownBlock]⟩
end Go.Proofs.Ytlhokicnedkieaa
