import Derived.Test.YtboncnlcomeahaaPk6
import Derived.Test.YtboncnlcomeahaaPk2
import Derived.Test.YtboncnlcomeahaaPk1
import Derived.Test.YtboncnlcomeahaaRows
import Derived.ProofKit
import Derived.OpenShut
import Derived.ShutString
import Derived.ChangeOld
import Derived.Below
/- What records come to, in plain Lean. -/
namespace Go.Proofs.Ytboncnlcomeahaa
set_option linter.unusedVariables false
set_option linter.unusedSimpArgs false
set_option linter.unnecessarySimpa false
set_option maxRecDepth 100000
open Go.RowKit
structure Kp where
  hard : Hd
  snap : Sn
  ents : List En
def Kp0 : Kp := ⟨Hd0, Sn0, []⟩
def kcutN (k : Kp) (i : Int) : Nat := if i ≤ k.snap.index then 0 else min k.ents.length (i - k.snap.index - 1).toNat
def ksnapE (k : Kp) (s : Sn) : List En :=
  if s.index - k.snap.index ≤ k.ents.length ∧ (k.ents[(s.index - k.snap.index).toNat - 1]?).any (fun e => decide (e.term = s.term)) = true then k.ents.drop (s.index - k.snap.index).toNat else []
def ksnap (k : Kp) (s : Sn) : Kp := if s.index ≤ k.snap.index then k else ⟨k.hard, s, ksnapE k s⟩
def kone (k : Kp) (r : Rec) : Kp :=
  if r.kind = 1 then ⟨r.hard, k.snap, k.ents⟩ else if r.kind = 2 then ⟨k.hard, k.snap, k.ents ++ [r.ent]⟩
  else if r.kind = 3 then ⟨k.hard, k.snap, k.ents.take (kcutN k r.index)⟩ else if r.kind = 4 then ksnap k r.snap else k
def kfold (k : Kp) (l : List Rec) : Kp := l.foldl kone k
def rHard (h : Hd) : Rec := ⟨1, h, En0, 0, Sn0⟩
def rSnap (s : Sn) : Rec := ⟨4, Hd0, En0, 0, s⟩
def rEnt (e : En) : Rec := ⟨2, Hd0, e, 0, Sn0⟩
def krecs (k : Kp) : List Rec := rHard k.hard :: ((if k.snap.index = 0 then [] else [rSnap k.snap]) ++ k.ents.map rEnt)
structure Kp.wide (k : Kp) : Prop where
  t0 : 0 ≤ k.hard.term
  t1 : k.hard.term ≤ 18446744073709551615
  v0 : -9223372036854775808 ≤ k.hard.vote
  v1 : k.hard.vote ≤ 9223372036854775807
  n0 : 0 ≤ k.snap.index
  n1 : k.snap.index ≤ 18446744073709551615
  s0 : 0 ≤ k.snap.term
  s1 : k.snap.term ≤ 18446744073709551615
theorem Kp0.wide_ : Kp0.wide := by constructor <;> simp [Kp0, Hd0, Sn0]
theorem kfold_nil (k : Kp) : kfold k [] = k := rfl
theorem kfold_cons (k : Kp) (r : Rec) (l : List Rec) : kfold k (r :: l) = kfold (kone k r) l := rfl
theorem kfold_app (k : Kp) (l m : List Rec) : kfold k (l ++ m) = kfold (kfold k l) m := List.foldl_append
theorem kfold_snoc (k : Kp) (l : List Rec) (r : Rec) : kfold k (l ++ [r]) = kone (kfold k l) r := by rw [kfold_app]; rfl
theorem kone_hard (k : Kp) (h : Hd) : kone k (rHard h) = ⟨h, k.snap, k.ents⟩ := rfl
theorem kone_ent (k : Kp) (e : En) : kone k (rEnt e) = ⟨k.hard, k.snap, k.ents ++ [e]⟩ := rfl
theorem kfold_ents (k : Kp) : ∀ l : List En, kfold k (l.map rEnt) = ⟨k.hard, k.snap, k.ents ++ l⟩
  | [] => by simp [kfold]
  | e :: l => by
    rw [List.map_cons, kfold_cons, kone_ent, kfold_ents]
    simp
/-- what records come to is sound: a snapshot without number is none -/
def Kp.sound (k : Kp) : Prop := 0 ≤ k.snap.index ∧ (k.snap.index = 0 → k.snap = Sn0)
theorem Kp0.sound_ : Kp0.sound := ⟨by simp [Kp0, Sn0], fun _ => rfl⟩
theorem Kp.sound.one {k : Kp} (h : k.sound) (r : Rec) : (kone k r).sound := by
  unfold kone
  split
  · exact h
  · split
    · exact h
    · split
      · exact h
      · split
        · unfold ksnap
          split
          · exact h
          · rename_i hn
            have := h.1
            exact ⟨by show 0 ≤ r.snap.index; omega, fun h0 => by change r.snap.index = 0 at h0; omega⟩
        · exact h
theorem Kp.sound.fold : ∀ (l : List Rec) {k : Kp}, k.sound → (kfold k l).sound
  | [], _, h => h
  | r :: l, _, h => Kp.sound.fold l (h.one r)
/-- the records of what is known say the same -/
theorem kfold_recs {k : Kp} (h : k.sound) : kfold Kp0 (krecs k) = k := by
  obtain ⟨hd, sn, es⟩ := k
  unfold krecs
  rw [kfold_cons, kone_hard, kfold_app, kfold_ents]
  by_cases h0 : sn.index = 0
  · have hs : sn = Sn0 := h.2 h0
    rw [if_pos h0, hs]
    rfl
  · have hp : 0 ≤ sn.index := h.1
    rw [if_neg h0]
    have : kfold ⟨hd, Kp0.snap, Kp0.ents⟩ [rSnap sn] = ⟨hd, sn, []⟩ := by
      show ksnap _ _ = _
      unfold ksnap
      rw [if_neg (by show ¬ sn.index ≤ (0 : Int); omega)]
      have : ksnapE ⟨hd, Kp0.snap, Kp0.ents⟩ sn = [] := by
        unfold ksnapE
        rw [if_neg]
        rintro ⟨h1, -⟩
        simp [Kp0, Sn0] at h1
        omega
      show (⟨hd, sn, ksnapE ⟨hd, Kp0.snap, Kp0.ents⟩ sn⟩ : Kp) = _
      rw [this]
    show (⟨(kfold ⟨hd, Kp0.snap, Kp0.ents⟩ [rSnap sn]).hard, (kfold ⟨hd, Kp0.snap, Kp0.ents⟩ [rSnap sn]).snap, (kfold ⟨hd, Kp0.snap, Kp0.ents⟩ [rSnap sn]).ents ++ es⟩ : Kp) = _
    rw [this]
    rfl
/-! sizes -/
structure Kp.small (k : Kp) (n : Nat) : Prop where
  len : k.ents.length ≤ n
  data : ∀ e ∈ k.ents, e.data.length ≤ 60
  state : k.snap.state.length ≤ 60
theorem Kp0.small_ : Kp0.small 0 := ⟨by simp [Kp0], by simp [Kp0], by simp [Kp0, Sn0]⟩
theorem Kp.small.mono {k : Kp} {m n : Nat} (h : k.small m) (hm : m ≤ n) : k.small n := ⟨Nat.le_trans h.len hm, h.data, h.state⟩
theorem Kp.small.one {k : Kp} {n : Nat} (h : k.small n) {r : Rec} (hr : r.small) : (kone k r).small (n + 1) := by
  unfold kone
  split
  · exact ⟨Nat.le_succ_of_le h.len, h.data, h.state⟩
  · split
    · refine ⟨by simpa using h.len, fun e he => ?_, h.state⟩
      rcases List.mem_append.1 he with he | he
      · exact h.data e he
      · rw [List.mem_singleton.1 he]; exact hr.1
    · split
      · exact ⟨Nat.le_succ_of_le (by simp only [List.length_take]; have := h.len; omega), fun e he => h.data e (List.mem_of_mem_take he), h.state⟩
      · split
        · unfold ksnap
          split
          · exact h.mono (Nat.le_succ n)
          · refine ⟨?_, fun e he => ?_, hr.2⟩
            · unfold ksnapE
              split
              · simp only [List.length_drop]; have := h.len; omega
              · simp
            · unfold ksnapE at he
              simp only at he
              split at he
              · exact h.data e (List.mem_of_mem_drop he)
              · cases he
        · exact h.mono (Nat.le_succ n)
theorem Kp.small.fold : ∀ (l : List Rec) {k : Kp} {n : Nat}, k.small n → (∀ r ∈ l, r.small) → (kfold k l).small (n + l.length)
  | [], _, _, h, _ => h
  | r :: l, k, n, h, hr => by
    have := Kp.small.fold l (h.one (hr r List.mem_cons_self)) (fun q hq => hr q (List.mem_cons_of_mem _ hq))
    rw [kfold_cons, List.length_cons, show n + (l.length + 1) = n + 1 + l.length by omega]
    exact this
theorem Kp.wide.one {k : Kp} (h : k.wide) {r : Rec} (hr : r.wide) : (kone k r).wide := by
  unfold kone
  split
  · exact ⟨hr.t0, hr.t1, hr.v0, hr.v1, h.n0, h.n1, h.s0, h.s1⟩
  · split
    · exact ⟨h.t0, h.t1, h.v0, h.v1, h.n0, h.n1, h.s0, h.s1⟩
    · split
      · exact ⟨h.t0, h.t1, h.v0, h.v1, h.n0, h.n1, h.s0, h.s1⟩
      · split
        · unfold ksnap
          split
          · exact h
          · exact ⟨h.t0, h.t1, h.v0, h.v1, hr.n0, hr.n1, hr.s0, hr.s1⟩
        · exact h
theorem Kp.wide.fold : ∀ (l : List Rec) {k : Kp}, k.wide → (∀ r ∈ l, r.wide) → (kfold k l).wide
  | [], _, h, _ => h
  | r :: l, _, h, hr => Kp.wide.fold l (h.one (hr r List.mem_cons_self)) fun q hq => hr q (List.mem_cons_of_mem _ hq)
end Go.Proofs.Ytboncnlcomeahaa

/- Words for memory in which some blocks are written: all others are as they were. -/
namespace Go.Proofs.Ytboncnlcomeahaa
set_option linter.unusedVariables false
set_option linter.unusedSimpArgs false
set_option linter.unnecessarySimpa false
set_option maxRecDepth 100000
open Go.RowKit
/-- all blocks but those are as they were -/
structure Chg (S : List Nat) (w w' : World) : Prop where
  os : w'.os = w.os
  tape : w'.tape = w.tape
  output : w'.output = w.output
  size : w.heap.size ≤ w'.heap.size
  block : ∀ k, k < w.heap.size → k ∉ S → w'.heap[k]? = w.heap[k]?
theorem Ext.chg {w w' : World} (h : Ext w w') (S : List Nat) : Chg S w w' := ⟨h.os, h.tape, h.output, h.size, fun k hk _ => h.block k hk⟩
theorem Chg.refl (S : List Nat) (w : World) : Chg S w w := ⟨rfl, rfl, rfl, Nat.le_refl _, fun _ _ _ => rfl⟩
theorem Chg.trans {S : List Nat} {a b c : World} (h : Chg S a b) (k : Chg S b c) : Chg S a c :=
  ⟨k.os.trans h.os, k.tape.trans h.tape, k.output.trans h.output, Nat.le_trans h.size k.size, fun i hi hn => (k.block i (Nat.lt_of_lt_of_le hi h.size) hn).trans (h.block i hi hn)⟩
theorem Chg.mono {S T : List Nat} {a b : World} (h : Chg S a b) (hs : ∀ k, k ∈ S → k ∈ T) : Chg T a b :=
  ⟨h.os, h.tape, h.output, h.size, fun i hi hn => h.block i hi fun hm => hn (hs i hm)⟩
theorem Chg.ext {S : List Nat} {a b : World} (h : Chg S a b) (hs : ∀ k, k ∈ S → a.heap.size ≤ k) : Ext a b :=
  ⟨h.os, h.tape, h.output, h.size, fun i hi => h.block i hi fun hm => by have := hs i hm; omega⟩
/-- new blocks that are written later are no loss -/
theorem Ext.then_ {S : List Nat} {a b c : World} (h : Ext a b) (k : Chg S b c) (hs : ∀ i, i ∈ S → a.heap.size ≤ i) : Ext a c :=
  ⟨k.os.trans h.os, k.tape.trans h.tape, k.output.trans h.output, Nat.le_trans h.size k.size, fun i hi => (k.block i (Nat.lt_of_lt_of_le hi h.size) fun hm => by have := hs i hm; omega).trans (h.block i hi)⟩
theorem Chg.drew {S : List Nat} {a b : World} (h : Chg S a b) : Chg S a b.drew := ⟨h.os, h.tape, h.output, h.size, h.block⟩
theorem Chg.drewN {S : List Nat} {a b : World} (h : Chg S a b) (n : Nat) : Chg S a (b.drewN n) := ⟨h.os, h.tape, h.output, h.size, h.block⟩
theorem Chg.alloc {S : List Nat} {a b : World} (h : Chg S a b) (o : Obj) : Chg S a (b.alloc o) := h.trans (((Ext.rfl' b).alloc' o).chg S)
theorem Chg.set {S : List Nat} {a b : World} (h : Chg S a b) {p : Addr} (hp : p.block ∈ S) (u : Value) : Chg S a (b.setCell p u) :=
  h.trans ⟨rfl, rfl, rfl, by simp [World.setCell], fun k _ hn => by
    have hne : k ≠ p.block := fun e => hn (e ▸ hp)
    exact Below.heap_setCell b p u k hne⟩
theorem Chg.cell {S : List Nat} {w w' : World} (h : Chg S w w') {p : Addr} (hp : p.block < w.heap.size) (hn : p.block ∉ S) : w'.cell? p = w.cell? p :=
  World.cell?_of_block (h.block _ hp hn)
theorem Blk.chg {S : List Nat} {w w' : World} {g : Nat} {t : TypeId} {cs : Array Value} (h : Blk w g t cs) (hc : Chg S w w') (hn : g ∉ S) : Blk w' g t cs := (hc.block g h.lt hn).trans h
theorem Reads.chg {S : List Nat} {w w' : World} {size n : Nat} {A : Option Addr} {xs : List Value} (h : Reads w w.heap.size size A n xs) (hc : Chg S w w') (hn : ∀ ad, A = some ad → 0 < n → ad.block ∉ S) : Reads w' w'.heap.size size A n xs :=
  ⟨h.1, fun h0 => by
    obtain ⟨ad, rfl, hb, hcell⟩ := h.2 h0
    exact ⟨ad, rfl, Nat.lt_of_lt_of_le hb hc.size, fun j u hu => (hc.cell (by rw [block_of_add]; exact hb) (by rw [block_of_add]; exact hn ad rfl h0)).trans (hcell j u hu)⟩⟩
/-- the value, a slice, reads nothing in those blocks -/
def Off (v : Value) (S : List Nat) : Prop := ∀ ad n c, v = .slice (some ad) n c → 0 < n → ad.block ∉ S
theorem Off.at_ {A : Option Addr} {n c : Nat} {S : List Nat} (h : Off (.slice A n c) S) : ∀ ad, A = some ad → 0 < n → ad.block ∉ S := by
  rintro ad rfl
  exact h ad n c rfl
theorem Off.slice {A : Option Addr} {n c n' c' : Nat} {S : List Nat} (h : Off (.slice A n c) S) (hn : n' ≤ n) : Off (.slice A n' c') S := by
  rintro ad m k he h0
  simp only [Value.slice.injEq] at he
  obtain ⟨rfl, rfl, rfl⟩ := he
  exact h ad n c rfl (by omega)
theorem Off.of_own {v : Value} {S : List Nat} (h : ∀ k, v.ownBlock = some k → k ∉ S) : Off v S := by
  rintro ad n c rfl _
  exact h ad.block rfl
theorem Off.nil (S : List Nat) (c : Nat) : Off (.slice none 0 c) S := by rintro ad n c he; cases he
theorem Bs.chg {S : List Nat} {w w' : World} {v : Value} {l : Bytes} (h : Bs w v l) (hc : Chg S w w') (hn : Off v S) : Bs w' v l := by
  obtain ⟨A, c, rfl, h1, h2, h3⟩ := h
  exact ⟨A, c, rfl, h1, h2, h3.chg hc hn.at_⟩
/-- a value of new memory -/
theorem Nw.off {w w' : World} {v : Value} {l : Bytes} (h : Nw w w' v l) {S : List Nat} (hs : ∀ k, k ∈ S → k < w.heap.size) : Off v S := by
  refine .of_own fun k hk hm => ?_
  have h1 := h.lt k hk
  have h2 := hs k hm
  omega
theorem Nw.chg {S : List Nat} {w0 w w' : World} {v : Value} {l : Bytes} (h : Nw w0 w v l) (hc : Chg S w w') (hn : ∀ k, v.ownBlock = some k → k ∉ S) : Nw w0 w' v l := by
  refine ⟨h.1, ?_⟩
  rcases h.2 with h2 | ⟨g, cap, cur, hv, hg, hh, r⟩
  · exact .inl h2
  · refine .inr ⟨g, cap, cur, hv, hg, ?_, r⟩
    have hlt : g < w.heap.size := by
      rcases Nat.lt_or_ge g w.heap.size with h | h
      · exact h
      · rw [Array.getElem?_eq_none h] at hh; cases hh
    rw [hc.block g hlt (hn g (by rw [hv]; rfl))]
    exact hh
/-- what was there ahead does not lie in new blocks -/
theorem Bs.off {w : World} {v : Value} {l : Bytes} (h : Bs w v l) {S : List Nat} (hs : ∀ k, k ∈ S → w.heap.size ≤ k) : Off v S := by
  rintro ad n c rfl h0 hm
  obtain ⟨hn, _, _, hr⟩ := h.inv
  obtain ⟨ad', he, hb, _⟩ := hr.2 h0
  obtain rfl : ad = ad' := Option.some.inj he
  have := hs _ hm
  omega
theorem Chg.then_new {S T : List Nat} {a b c : World} (h : Chg S a b) (k : Chg T b c) (hs : ∀ i, i ∈ T → a.heap.size ≤ i) : Chg S a c :=
  ⟨k.os.trans h.os, k.tape.trans h.tape, k.output.trans h.output, Nat.le_trans h.size k.size, fun i hi hn => (k.block i (Nat.lt_of_lt_of_le hi h.size) fun hm => by have := hs i hm; omega).trans (h.block i hi hn)⟩
end Go.Proofs.Ytboncnlcomeahaa

/- What a law's row hands over, in the walks' words: bytes that came in, numbers in their bounds. -/
namespace Go.Proofs.Ytboncnlcomeahaa
set_option linter.unusedVariables false
set_option linter.unusedSimpArgs false
set_option linter.unnecessarySimpa false
set_option maxRecDepth 100000
open Go.ChangeShapes Go.WideShapes Go.ChangeAt Go.RowKit
theorem own : ownKnob Try.prog.godebug = none := by kernel_rfl
theorem laidOut : laidOutB Try.prog = true := by kernel_rfl
theorem bs_of_ints {W : World} {x : Addr} {len cap : Nat} {zs : List Int} (hl : len ≤ cap) (hm : cap ≤ maxLen) (hz : zs.length = cap)
    (hcell : ∀ i, i < zs.length → W.cell? (x.add i) = some (.int .u8 (zs.getD i 0))) (hw : ∀ n ∈ zs, (Lit.int .u8 n).wf = true) : ∃ b, Bs W (.slice (some x) len cap) b := by
  have hb : ∀ n ∈ zs, 0 ≤ n ∧ n ≤ 255 := by
    intro n hn
    have := hw n hn
    simp [Lit.wf, IntKind.min, IntKind.max, IntKind.bits, IntKind.signed] at this
    exact this
  refine ⟨(zs.take len).map fun n => UInt8.ofNat n.toNat, Bs.mk' (by simp; omega) hl hm ⟨by simp; omega, fun hn => ⟨x, rfl, ?_, fun j u hu => ?_⟩⟩⟩
  · have h0 := hcell 0 (by omega)
    have := World.block_lt_of_cell? W _ h0
    rwa [block_of_add] at this
  · rw [bv, List.map_map, List.getElem?_map, Option.map_eq_some_iff] at hu
    obtain ⟨n, hn, rfl⟩ := hu
    rw [List.getElem?_take] at hn
    split at hn
    · have hj : j < zs.length := (List.getElem?_eq_some_iff.1 hn).1
      rw [hcell j hj, List.getD_eq_getElem?_getD, hn]
      have := hb n (List.mem_of_getElem? hn)
      simp only [Function.comp_apply, Option.getD_some, UInt8.toNat_ofNat']
      congr 2
      omega
    · cases hn
theorem bs_none {W : World} : Bs W (.slice none 0 0) [] := Bs.nil W
end Go.Proofs.Ytboncnlcomeahaa

