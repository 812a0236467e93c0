/- shortcutlaw21: begun. -/
import Derived.Test.YtlhokicnedkieaaDisk3
namespace Go.Proofs.Ytlhokicnedkieaa
set_option linter.unusedVariables false
set_option linter.unusedSimpArgs false
set_option linter.unnecessarySimpa false
set_option maxRecDepth 100000
open Go.RowKit
theorem RetDisk.at_ {w w' : World} {e : Ending} {g : Nat} {v : Value} {r : Dk × Int} {d : Dk} {k : Int} (h : RetDisk w w' e g v r) (E : r = (d, k)) : e = .returned (.int .i64 k) ∧ DiskTo w w' g v d := by
  subst E; exact h
/-- the bytes of a literal, as they are laid -/
theorem lit_fr {w : World} (l : Bytes) (cs : Array Value) (g n : Nat) (fr : Nat × Nat) (hg : w.heap.size = g) (hc : cs = (bv l).toArray) (hn : l.length = n) (hm : n ≤ maxLen) : Bs (w.alloc (.cells cs 5 fr)) (.slice (some ⟨g, 0, none⟩) n n) l := by
  subst hc hn
  exact Bs.lit 5 l g hg hm fr
set_option maxHeartbeats 1600000 in
theorem begun21_b (w : World) : Calls Try.prog 12 #[] w fun e w' => e = .returned (.bool true) ∧ Ext w w' := by
  have kc := fun (w : World) (C : Array Value) (n c : Nat) => Lib.run_convert_bytes_const (P := Try.prog) w 22 5 C n c Try.underlying22 Try.underlying5
  go_enter Try.func12, Try.ntmps12
  go_wp2_with fail
  refine (disk_new _).mono ?_
  rintro e w1 ⟨rfl, rfl⟩
  have hD := new_at w
  have hx0 := (Ext.rfl' w).alloc' (.cells (dcells (.slice none 0 0) Dk.new) 71)
  have hs0 : w.heap.size < (w.alloc (.cells (dcells (.slice none 0 0) Dk.new) 71)).heap.size := by simp
  generalize w.alloc (.cells (dcells (.slice none 0 0) Dk.new) 71) = w0 at *
  go_wp2_with fail
  refine Calls.mono (disk_append w.heap.size _ _ Dk.new [97, 98, 99] _ (hD.box _) (lit_fr [97, 98, 99] _ _ 3 _ (by rfl) (by rfl) (by rfl) (by simp [maxLen])) (.of_own fun k hk => by simp [Value.ownBlock] at hk; subst hk; simp; omega) (by decide)) ?_
  rintro e w1 hr
  obtain ⟨rfl, v1, h1, hx1, hn1⟩ := hr.at_ (d := ⟨[97, 98, 99], 0, false, 0, 0, false⟩) (k := 0) rfl
  clear hr
  go_wp2_with fail
  refine (disk_synced w.heap.size v1 _ _ h1).mono ?_
  rintro e w2 ⟨rfl, rfl⟩
  go_wp2_with fail
  refine (disk_crash w.heap.size v1 _ 1 _ h1 (by decide)).mono ?_
  rintro e w2 ⟨rfl, v2, h2, hx2, hn2⟩
  replace h2 : DiskAt w2 w.heap.size v2 ⟨[97], 0, false, 0, 0, true⟩ := h2
  go_wp2_with fail
  refine (disk_read_dead w.heap.size v2 _ _ h2 rfl).mono ?_
  rintro e w3 ⟨rfl, rfl⟩
  go_wp2_with fail
  refine (disk_power w.heap.size v2 _ _ h2).mono ?_
  rintro e w3 ⟨rfl, v3, h3, hx3, hn3⟩
  replace h3 : DiskAt w3 w.heap.size v3 ⟨[97], 1, false, 0, 0, false⟩ := h3
  go_wp2_with fail
  refine (disk_read w.heap.size v3 _ _ h3 rfl).mono ?_
  rintro e w4 ⟨y, rfl, hy, hx4⟩
  have h4 := h3.ext hx4
  replace hy : Nw w3 w4 y [97] := hy
  obtain ⟨A, c, rfl, -, -⟩ := own_slice (id hy)
  have ks := run_str (P := Try.prog) hy.bs Try.underlying22 Try.underlying5 Try.underlying9
  simp only [List.length_cons, List.length_nil, Nat.zero_add] at ks
  go_wp2_with fail
  refine (disk_synced w.heap.size v3 _ _ h4).mono ?_
  rintro e w5 ⟨rfl, rfl⟩
  go_wp2_with fail
  refine (disk_dead w.heap.size v3 _ _ h4).mono ?_
  rintro e w5 ⟨rfl, rfl⟩
  go_wp2
  go_ret
  exact ⟨rfl, ((((hx0.alloc' _).then_ hx1 (by simp)).then_ hx2 (by simp)).then_ hx3 (by simp)).trans' hx4⟩
end Go.Proofs.Ytlhokicnedkieaa
