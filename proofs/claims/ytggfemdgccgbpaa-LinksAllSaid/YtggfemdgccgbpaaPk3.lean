import Derived.Test.YtggfemdgccgbpaaPk2
/- Words for memory in which some blocks are written: all others are as they were. -/
namespace Go.Proofs.Ytggfemdgccgbpaa
set_option linter.unusedVariables false
set_option linter.unusedSimpArgs false
set_option linter.unnecessarySimpa false
set_option maxRecDepth 100000
open Go.RowKit
/-- all blocks but those are as they were -/
structure Chg (S : List Nat) (w w' : World) : Prop where
  os : w'.os = w.os
  tape : w'.tape = w.tape
  output : w'.output = w.output
  size : w.heap.size ≤ w'.heap.size
  block : ∀ k, k < w.heap.size → k ∉ S → w'.heap[k]? = w.heap[k]?
theorem Ext.chg {w w' : World} (h : Ext w w') (S : List Nat) : Chg S w w' := ⟨h.os, h.tape, h.output, h.size, fun k hk _ => h.block k hk⟩
theorem Chg.refl (S : List Nat) (w : World) : Chg S w w := ⟨rfl, rfl, rfl, Nat.le_refl _, fun _ _ _ => rfl⟩
theorem Chg.trans {S : List Nat} {a b c : World} (h : Chg S a b) (k : Chg S b c) : Chg S a c :=
  ⟨k.os.trans h.os, k.tape.trans h.tape, k.output.trans h.output, Nat.le_trans h.size k.size, fun i hi hn => (k.block i (Nat.lt_of_lt_of_le hi h.size) hn).trans (h.block i hi hn)⟩
theorem Chg.mono {S T : List Nat} {a b : World} (h : Chg S a b) (hs : ∀ k, k ∈ S → k ∈ T) : Chg T a b :=
  ⟨h.os, h.tape, h.output, h.size, fun i hi hn => h.block i hi fun hm => hn (hs i hm)⟩
theorem Chg.ext {S : List Nat} {a b : World} (h : Chg S a b) (hs : ∀ k, k ∈ S → a.heap.size ≤ k) : Ext a b :=
  ⟨h.os, h.tape, h.output, h.size, fun i hi => h.block i hi fun hm => by have := hs i hm; omega⟩
/-- new blocks that are written later are no loss -/
theorem Ext.then_ {S : List Nat} {a b c : World} (h : Ext a b) (k : Chg S b c) (hs : ∀ i, i ∈ S → a.heap.size ≤ i) : Ext a c :=
  ⟨k.os.trans h.os, k.tape.trans h.tape, k.output.trans h.output, Nat.le_trans h.size k.size, fun i hi => (k.block i (Nat.lt_of_lt_of_le hi h.size) fun hm => by have := hs i hm; omega).trans (h.block i hi)⟩
theorem Chg.drew {S : List Nat} {a b : World} (h : Chg S a b) : Chg S a b.drew := ⟨h.os, h.tape, h.output, h.size, h.block⟩
theorem Chg.drewN {S : List Nat} {a b : World} (h : Chg S a b) (n : Nat) : Chg S a (b.drewN n) := ⟨h.os, h.tape, h.output, h.size, h.block⟩
theorem Chg.alloc {S : List Nat} {a b : World} (h : Chg S a b) (o : Obj) : Chg S a (b.alloc o) := h.trans (((Ext.rfl' b).alloc' o).chg S)
theorem Chg.set {S : List Nat} {a b : World} (h : Chg S a b) {p : Addr} (hp : p.block ∈ S) (u : Value) : Chg S a (b.setCell p u) :=
  h.trans ⟨rfl, rfl, rfl, by simp [World.setCell], fun k _ hn => by
    have hne : k ≠ p.block := fun e => hn (e ▸ hp)
    exact Below.heap_setCell b p u k hne⟩
theorem Chg.cell {S : List Nat} {w w' : World} (h : Chg S w w') {p : Addr} (hp : p.block < w.heap.size) (hn : p.block ∉ S) : w'.cell? p = w.cell? p :=
  World.cell?_of_block (h.block _ hp hn)
theorem Blk.chg {S : List Nat} {w w' : World} {g : Nat} {t : TypeId} {cs : Array Value} (h : Blk w g t cs) (hc : Chg S w w') (hn : g ∉ S) : Blk w' g t cs := (hc.block g h.lt hn).trans h
theorem Reads.chg {S : List Nat} {w w' : World} {size n : Nat} {A : Option Addr} {xs : List Value} (h : Reads w w.heap.size size A n xs) (hc : Chg S w w') (hn : ∀ ad, A = some ad → 0 < n → ad.block ∉ S) : Reads w' w'.heap.size size A n xs :=
  ⟨h.1, fun h0 => by
    obtain ⟨ad, rfl, hb, hcell⟩ := h.2 h0
    exact ⟨ad, rfl, Nat.lt_of_lt_of_le hb hc.size, fun j u hu => (hc.cell (by rw [block_of_add]; exact hb) (by rw [block_of_add]; exact hn ad rfl h0)).trans (hcell j u hu)⟩⟩
/-- the value, a slice, reads nothing in those blocks -/
def Off (v : Value) (S : List Nat) : Prop := ∀ ad n c, v = .slice (some ad) n c → 0 < n → ad.block ∉ S
theorem Off.at_ {A : Option Addr} {n c : Nat} {S : List Nat} (h : Off (.slice A n c) S) : ∀ ad, A = some ad → 0 < n → ad.block ∉ S := by
  rintro ad rfl
  exact h ad n c rfl
theorem Off.slice {A : Option Addr} {n c n' c' : Nat} {S : List Nat} (h : Off (.slice A n c) S) (hn : n' ≤ n) : Off (.slice A n' c') S := by
  rintro ad m k he h0
  simp only [Value.slice.injEq] at he
  obtain ⟨rfl, rfl, rfl⟩ := he
  exact h ad n c rfl (by omega)
theorem Off.of_own {v : Value} {S : List Nat} (h : ∀ k, v.ownBlock = some k → k ∉ S) : Off v S := by
  rintro ad n c rfl _
  exact h ad.block rfl
theorem Off.nil (S : List Nat) (c : Nat) : Off (.slice none 0 c) S := by rintro ad n c he; cases he
theorem Bs.chg {S : List Nat} {w w' : World} {v : Value} {l : Bytes} (h : Bs w v l) (hc : Chg S w w') (hn : Off v S) : Bs w' v l := by
  obtain ⟨A, c, rfl, h1, h2, h3⟩ := h
  exact ⟨A, c, rfl, h1, h2, h3.chg hc hn.at_⟩
/-- a value of new memory -/
theorem Nw.off {w w' : World} {v : Value} {l : Bytes} (h : Nw w w' v l) {S : List Nat} (hs : ∀ k, k ∈ S → k < w.heap.size) : Off v S := by
  refine .of_own fun k hk hm => ?_
  have h1 := h.lt k hk
  have h2 := hs k hm
  omega
theorem Nw.chg {S : List Nat} {w0 w w' : World} {v : Value} {l : Bytes} (h : Nw w0 w v l) (hc : Chg S w w') (hn : ∀ k, v.ownBlock = some k → k ∉ S) : Nw w0 w' v l := by
  refine ⟨h.1, ?_⟩
  rcases h.2 with h2 | ⟨g, cap, cur, hv, hg, hh, r⟩
  · exact .inl h2
  · refine .inr ⟨g, cap, cur, hv, hg, ?_, r⟩
    have hlt : g < w.heap.size := by
      rcases Nat.lt_or_ge g w.heap.size with h | h
      · exact h
      · rw [Array.getElem?_eq_none h] at hh; cases hh
    rw [hc.block g hlt (hn g (by rw [hv]; rfl))]
    exact hh
/-- what was there ahead does not lie in new blocks -/
theorem Bs.off {w : World} {v : Value} {l : Bytes} (h : Bs w v l) {S : List Nat} (hs : ∀ k, k ∈ S → w.heap.size ≤ k) : Off v S := by
  rintro ad n c rfl h0 hm
  obtain ⟨hn, _, _, hr⟩ := h.inv
  obtain ⟨ad', he, hb, _⟩ := hr.2 h0
  obtain rfl : ad = ad' := Option.some.inj he
  have := hs _ hm
  omega
theorem Chg.then_new {S T : List Nat} {a b c : World} (h : Chg S a b) (k : Chg T b c) (hs : ∀ i, i ∈ T → a.heap.size ≤ i) : Chg S a c :=
  ⟨k.os.trans h.os, k.tape.trans h.tape, k.output.trans h.output, Nat.le_trans h.size k.size, fun i hi hn => (k.block i (Nat.lt_of_lt_of_le hi h.size) fun hm => by have := hs i hm; omega).trans (h.block i hi hn)⟩
end Go.Proofs.Ytggfemdgccgbpaa

