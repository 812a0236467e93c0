/- A part of the proof of 'MsgAll'. -/
import Derived.Test.YtlblgopfdadalaaM1
import Derived.Test.YtlblgopfdadalaaRows
import Derived.ProofKit
import Derived.OpenShut
import Derived.ShutString
import Derived.ChangeOld
import Derived.Below
import Derived.Test.YtlblgopfdadalaaM2
import Derived.Deep.Slices
import Derived.Deep.Fields
import Derived.ChangeSame
namespace Go.Proofs.Ytlblgopfdadalaa
set_option linter.unusedVariables false
set_option linter.unusedSimpArgs false
set_option linter.unnecessarySimpa false
set_option maxRecDepth 100000
open Go.ChangeShapes Go.WideShapes Go.ChangeAt Go.RowKit
theorem own : ownKnob Try.prog.godebug = none := by kernel_rfl
theorem laidOut : laidOutB Try.prog = true := by kernel_rfl
theorem bs_of_ints {W : World} {x : Addr} {len cap : Nat} {zs : List Int} (hl : len ≤ cap) (hm : cap ≤ maxLen) (hz : zs.length = cap)
    (hcell : ∀ i, i < zs.length → W.cell? (x.add i) = some (.int .u8 (zs.getD i 0))) (hw : ∀ n ∈ zs, (Lit.int .u8 n).wf = true) : ∃ b, Bs W (.slice (some x) len cap) b := by
  have hb : ∀ n ∈ zs, 0 ≤ n ∧ n ≤ 255 := by
    intro n hn
    have := hw n hn
    simp [Lit.wf, IntKind.min, IntKind.max, IntKind.bits, IntKind.signed] at this
    exact this
  refine ⟨(zs.take len).map fun n => UInt8.ofNat n.toNat, Bs.mk' (by simp; omega) hl hm ⟨by simp; omega, fun hn => ⟨x, rfl, ?_, fun j u hu => ?_⟩⟩⟩
  · have h0 := hcell 0 (by omega)
    have := World.block_lt_of_cell? W _ h0
    rwa [block_of_add] at this
  · rw [bv, List.map_map, List.getElem?_map, Option.map_eq_some_iff] at hu
    obtain ⟨n, hn, rfl⟩ := hu
    rw [List.getElem?_take] at hn
    split at hn
    · have hj : j < zs.length := (List.getElem?_eq_some_iff.1 hn).1
      rw [hcell j hj, List.getD_eq_getElem?_getD, hn]
      have := hb n (List.mem_of_getElem? hn)
      simp only [Function.comp_apply, Option.getD_some, UInt8.toNat_ofNat']
      congr 2
      omega
    · cases hn
theorem bs_none {W : World} : Bs W (.slice none 0 0) [] := Bs.nil W
end Go.Proofs.Ytlblgopfdadalaa
namespace Go.Proofs.Ytlblgopfdadalaa
set_option linter.unusedVariables false
set_option linter.unusedSimpArgs false
set_option linter.unnecessarySimpa false
set_option maxRecDepth 100000
open Go.RowKit
/-- blocks in which nothing is read -/
abbrev Avoid := Nat → Prop
abbrev noneAt : Avoid := fun _ => False
structure Enc (α : Type) where
  size : Nat
  rep : World → Avoid → List Value → α → Prop
  len : ∀ {w X cs a}, rep w X cs a → cs.length = size
  one : ∀ {w X cs a}, rep w X cs a → ∀ u ∈ cs, u.oneCell' = true
  chg : ∀ {w w' X S cs a}, rep w X cs a → Chg S w w' → (∀ k, k ∈ S → k < w.heap.size → X k) → rep w' X cs a
  mono : ∀ {w X Y cs a}, rep w X cs a → (∀ k, k < w.heap.size → Y k → X k) → rep w Y cs a
namespace Enc
variable {α β : Type}
theorem ext (E : Enc α) {w w' : World} {X : Avoid} {cs : List Value} {a : α} (h : E.rep w X cs a) (hx : Ext w w') : E.rep w' X cs a := E.chg h (hx.chg []) (by simp)
def int (k : IntKind) (lo hi : Int) : Enc Int where
  size := 1
  rep _ _ cs n := cs = [.int k n] ∧ lo ≤ n ∧ n ≤ hi
  len h := by rw [h.1]; rfl
  one h := by rw [h.1]; intro u hu; simp at hu; subst hu; rfl
  chg h _ _ := h
  mono h _ := h
abbrev i64 : Enc Int := int .i64 (-9223372036854775808) 9223372036854775807
abbrev u64 : Enc Int := int .u64 0 18446744073709551615
abbrev u8 : Enc Int := int .u8 0 255
def bool : Enc Bool where
  size := 1
  rep _ _ cs b := cs = [.bool b]
  len h := by rw [h]; rfl
  one h := by rw [h]; intro u hu; simp at hu; subst hu; rfl
  chg h _ _ := h
  mono h _ := h
def text : Enc Bytes where
  size := 1
  rep _ _ cs l := cs = [str l] ∧ l.length ≤ maxLen
  len h := by rw [h.1]; rfl
  one h := by rw [h.1]; intro u hu; simp at hu; subst hu; rfl
  chg h _ _ := h
  mono h _ := h
/-- v is a slice whose bytes, read in w, are l, and they lie in no block of X -/
def BsX (w : World) (X : Avoid) (v : Value) (l : Bytes) : Prop := Bs w v l ∧ ∀ ad n c, v = .slice (some ad) n c → 0 < n → ¬ X ad.block
end Enc
theorem Bs.lt {w : World} {ad : Addr} {n c : Nat} {l : Bytes} (h : Bs w (.slice (some ad) n c) l) (h0 : 0 < n) : ad.block < w.heap.size := by
  obtain ⟨_, _, _, hr⟩ := h.inv
  obtain ⟨ad', he, hb, _⟩ := hr.2 h0
  rw [Option.some.inj he]; exact hb
namespace Enc
variable {α β : Type}
theorem BsX.chg {w w' : World} {X : Avoid} {S : List Nat} {v : Value} {l : Bytes} (h : BsX w X v l) (hc : Chg S w w') (hs : ∀ k, k ∈ S → k < w.heap.size → X k) : BsX w' X v l :=
  ⟨h.1.chg hc fun ad n c he h0 hm => h.2 ad n c he h0 (hs _ hm (by subst he; exact h.1.lt h0)), h.2⟩
theorem BsX.mono {w : World} {X Y : Avoid} {v : Value} {l : Bytes} (h : BsX w X v l) (hs : ∀ k, k < w.heap.size → Y k → X k) : BsX w Y v l :=
  ⟨h.1, fun ad n c he h0 hy => h.2 ad n c he h0 (hs _ (by subst he; exact h.1.lt h0) hy)⟩
theorem BsX.ext {w w' : World} {X : Avoid} {v : Value} {l : Bytes} (h : BsX w X v l) (hx : Ext w w') : BsX w' X v l := h.chg (hx.chg []) (by simp)
theorem BsX.of {w : World} {v : Value} {l : Bytes} (h : Bs w v l) : BsX w noneAt v l := ⟨h, fun _ _ _ _ _ h => h⟩
theorem BsX.off {w : World} {X : Avoid} {v : Value} {l : Bytes} (h : BsX w X v l) {S : List Nat} (hs : ∀ k, k ∈ S → X k) : Off v S := fun ad n c he h0 hm => h.2 ad n c he h0 (hs _ hm)
theorem BsX.nil (w : World) (X : Avoid) : BsX w X (.slice none 0 0) [] := ⟨Bs.nil w, fun _ _ _ he => by cases he⟩
theorem BsX.nw {w0 w : World} {X : Avoid} {v : Value} {l : Bytes} (h : Nw w0 w v l) (hX : ∀ k, X k → k < w0.heap.size) : BsX w X v l :=
  ⟨h.bs, fun ad n c he h0 hx => by have h1 := (h.lt ad.block (by rw [he]; rfl)).1; have h2 := hX _ hx; omega⟩
def byts : Enc Bytes where
  size := 1
  rep w X cs l := ∃ v, cs = [v] ∧ BsX w X v l
  len h := by obtain ⟨v, rfl, _⟩ := h; rfl
  one h := by
    obtain ⟨v, rfl, hb⟩ := h
    obtain ⟨A, c, rfl, _⟩ := hb.1
    intro u hu; simp at hu; subst hu; rfl
  chg h hc hs := by obtain ⟨v, rfl, hb⟩ := h; exact ⟨v, rfl, hb.chg hc hs⟩
  mono h hs := by obtain ⟨v, rfl, hb⟩ := h; exact ⟨v, rfl, hb.mono hs⟩
def unit : Enc Unit where
  size := 0
  rep _ _ cs _ := cs = []
  len h := by rw [h]; rfl
  one h := by rw [h]; intro u hu; cases hu
  chg h _ _ := h
  mono h _ := h
def pair (E : Enc α) (F : Enc β) : Enc (α × β) where
  size := E.size + F.size
  rep w X cs a := ∃ c1 c2, cs = c1 ++ c2 ∧ E.rep w X c1 a.1 ∧ F.rep w X c2 a.2
  len h := by obtain ⟨c1, c2, rfl, h1, h2⟩ := h; rw [List.length_append, E.len h1, F.len h2]
  one h := by
    obtain ⟨c1, c2, rfl, h1, h2⟩ := h
    intro u hu
    rcases List.mem_append.1 hu with h | h
    · exact E.one h1 u h
    · exact F.one h2 u h
  chg h hc hs := by obtain ⟨c1, c2, rfl, h1, h2⟩ := h; exact ⟨c1, c2, rfl, E.chg h1 hc hs, F.chg h2 hc hs⟩
  mono h hs := by obtain ⟨c1, c2, rfl, h1, h2⟩ := h; exact ⟨c1, c2, rfl, E.mono h1 hs, F.mono h2 hs⟩
def map (E : Enc β) (f : α → β) : Enc α where
  size := E.size
  rep w X cs a := E.rep w X cs (f a)
  len h := E.len h
  one h := E.one h
  chg h hc hs := E.chg h hc hs
  mono h hs := E.mono h hs
/-- side by side, each element's cells -/
def Each (E : Enc α) (w : World) (X : Avoid) (css : List (List Value)) (l : List α) : Prop :=
  css.length = l.length ∧ ∀ (k : Nat) cs a, css[k]? = some cs → l[k]? = some a → E.rep w X cs a
theorem Each.chg {E : Enc α} {w w' : World} {X : Avoid} {S : List Nat} {css : List (List Value)} {l : List α} (h : Each E w X css l) (hc : Chg S w w') (hs : ∀ k, k ∈ S → k < w.heap.size → X k) : Each E w' X css l :=
  ⟨h.1, fun k cs a h1 h2 => E.chg (h.2 k cs a h1 h2) hc hs⟩
theorem Each.ext {E : Enc α} {w w' : World} {X : Avoid} {css : List (List Value)} {l : List α} (h : Each E w X css l) (hx : Ext w w') : Each E w' X css l := h.chg (hx.chg []) (by simp)
theorem Each.mono {E : Enc α} {w : World} {X Y : Avoid} {css : List (List Value)} {l : List α} (h : Each E w X css l) (hs : ∀ k, k < w.heap.size → Y k → X k) : Each E w Y css l :=
  ⟨h.1, fun k cs a h1 h2 => E.mono (h.2 k cs a h1 h2) hs⟩
theorem Each.nil (E : Enc α) (w : World) (X : Avoid) : Each E w X [] [] := ⟨rfl, fun k cs a h => by simp at h⟩
theorem Each.app {E : Enc α} {w : World} {X : Avoid} {css css' : List (List Value)} {l l' : List α} (h : Each E w X css l) (h' : Each E w X css' l') : Each E w X (css ++ css') (l ++ l') := by
  refine ⟨by simp [h.1, h'.1], fun k cs a h1 h2 => ?_⟩
  by_cases hk : k < css.length
  · rw [List.getElem?_append_left hk] at h1
    rw [List.getElem?_append_left (by rw [← h.1]; exact hk)] at h2
    exact h.2 k cs a h1 h2
  · rw [List.getElem?_append_right (by omega)] at h1
    rw [List.getElem?_append_right (by rw [← h.1]; omega), ← h.1] at h2
    exact h'.2 _ cs a h1 h2
theorem Each.single {E : Enc α} {w : World} {X : Avoid} {cs : List Value} {a : α} (h : E.rep w X cs a) : Each E w X [cs] [a] :=
  ⟨rfl, fun k cs' a' h1 h2 => by rcases k with _ | k <;> simp at h1 h2; subst h1 h2; exact h⟩
theorem Each.take {E : Enc α} {w : World} {X : Avoid} {css : List (List Value)} {l : List α} (h : Each E w X css l) (n : Nat) : Each E w X (css.take n) (l.take n) := by
  refine ⟨by simp [h.1], fun k cs a h1 h2 => ?_⟩
  rw [List.getElem?_take] at h1 h2
  by_cases hk : k < n
  · rw [if_pos hk] at h1 h2; exact h.2 k cs a h1 h2
  · rw [if_neg hk] at h1; cases h1
theorem Each.drop {E : Enc α} {w : World} {X : Avoid} {css : List (List Value)} {l : List α} (h : Each E w X css l) (n : Nat) : Each E w X (css.drop n) (l.drop n) := by
  refine ⟨by simp [h.1], fun k cs a h1 h2 => ?_⟩
  rw [List.getElem?_drop] at h1 h2
  exact h.2 _ cs a h1 h2
theorem Each.len {E : Enc α} {w : World} {X : Avoid} : ∀ {css : List (List Value)} {l : List α}, Each E w X css l → css.flatten.length = l.length * E.size
  | [], l, h => by have : l = [] := List.eq_nil_of_length_eq_zero h.1.symm; subst this; simp
  | cs :: css, [], h => by cases h.1
  | cs :: css, a :: l, h => by
    have h1 := E.len (h.2 0 cs a rfl rfl)
    have h2 : Each E w X css l := ⟨by simpa using h.1, fun k c b hc hb => h.2 (k + 1) c b (by simpa using hc) (by simpa using hb)⟩
    rw [List.flatten_cons, List.length_append, h1, h2.len, List.length_cons, Nat.succ_mul]; omega
theorem Each.one {E : Enc α} {w : World} {X : Avoid} {css : List (List Value)} {l : List α} (h : Each E w X css l) : ∀ u ∈ css.flatten, u.oneCell' = true := by
  intro u hu
  obtain ⟨cs, hcs, hm⟩ := List.mem_flatten.1 hu
  obtain ⟨k, hk⟩ := List.mem_iff_getElem?.1 hcs
  have hkl : k < l.length := by rw [← h.1]; exact (List.getElem?_eq_some_iff.1 hk).1
  exact E.one (h.2 k cs l[k] hk (List.getElem?_eq_getElem hkl)) u hm
theorem flatten_at {s : Nat} : ∀ (css : List (List Value)) (k : Nat) (cs : List Value), (∀ c ∈ css, c.length = s) → css[k]? = some cs → ∀ j u, cs[j]? = some u → css.flatten[k * s + j]? = some u
  | [], k, cs, _, h => by simp at h
  | c :: css, 0, cs, hl, h => by
    intro j u hu
    simp at h; subst h
    have hj := (List.getElem?_eq_some_iff.1 hu).1
    rw [Nat.zero_mul, Nat.zero_add, List.flatten_cons, List.getElem?_append_left hj]
    exact hu
  | c :: css, k + 1, cs, hl, h => by
    intro j u hu
    have h1 := flatten_at css k cs (fun c hc => hl c (List.mem_cons_of_mem _ hc)) (by simpa using h) j u hu
    have hc := hl c List.mem_cons_self
    rw [List.flatten_cons, List.getElem?_append_right (by rw [hc, Nat.succ_mul]; omega), hc]
    have : (k + 1) * s + j - s = k * s + j := by rw [Nat.succ_mul]; omega
    rw [this]
    exact h1
theorem Each.lens {E : Enc α} {w : World} {X : Avoid} {css : List (List Value)} {l : List α} (h : Each E w X css l) : ∀ c ∈ css, c.length = E.size := by
  intro c hc
  obtain ⟨k, hk⟩ := List.mem_iff_getElem?.1 hc
  have hkl : k < l.length := by rw [← h.1]; exact (List.getElem?_eq_some_iff.1 hk).1
  exact E.len (h.2 k c l[k] hk (List.getElem?_eq_getElem hkl))
/-- v is a slice that reads as the list l -/
def Sl (E : Enc α) (w : World) (X : Avoid) (v : Value) (l : List α) : Prop :=
  ∃ A c css, v = .slice A l.length c ∧ l.length ≤ c ∧ c ≤ maxLen ∧ Reads w w.heap.size E.size A l.length css.flatten ∧ (∀ ad, A = some ad → 0 < l.length → ¬ X ad.block) ∧ Each E w X css l
theorem Sl.chg {E : Enc α} {w w' : World} {X : Avoid} {S : List Nat} {v : Value} {l : List α} (h : Sl E w X v l) (hc : Chg S w w') (hs : ∀ k, k ∈ S → k < w.heap.size → X k) : Sl E w' X v l := by
  obtain ⟨A, c, css, rfl, h1, h2, h3, h4, h5⟩ := h
  refine ⟨A, c, css, rfl, h1, h2, h3.chg hc (fun ad he h0 hm => h4 ad he h0 (hs _ hm ?_)), h4, h5.chg hc hs⟩
  obtain ⟨ad', he', hb, _⟩ := h3.2 h0
  rw [he] at he'
  rw [Option.some.inj he']; exact hb
theorem Sl.ext {E : Enc α} {w w' : World} {X : Avoid} {v : Value} {l : List α} (h : Sl E w X v l) (hx : Ext w w') : Sl E w' X v l := h.chg (hx.chg []) (by simp)
theorem Sl.mono {E : Enc α} {w : World} {X Y : Avoid} {v : Value} {l : List α} (h : Sl E w X v l) (hs : ∀ k, k < w.heap.size → Y k → X k) : Sl E w Y v l := by
  obtain ⟨A, c, css, rfl, h1, h2, h3, h4, h5⟩ := h
  refine ⟨A, c, css, rfl, h1, h2, h3, (fun ad he h0 hy => h4 ad he h0 (hs _ ?_ hy)), h5.mono hs⟩
  obtain ⟨ad', he', hb, _⟩ := h3.2 h0
  rw [he] at he'
  rw [Option.some.inj he']; exact hb
theorem Sl.nil (E : Enc α) (w : World) (X : Avoid) : Sl E w X (.slice none 0 0) [] :=
  ⟨none, 0, [], rfl, Nat.le_refl _, by simp [maxLen], ⟨by simp, fun h => by simp at h⟩, (fun _ he => by cases he), Each.nil E w X⟩
theorem Sl.inv {E : Enc α} {w : World} {X : Avoid} {A : Option Addr} {n c : Nat} {l : List α} (h : Sl E w X (.slice A n c) l) : n = l.length ∧ n ≤ c ∧ c ≤ maxLen := by
  obtain ⟨A', c', css, e, h1, h2, _⟩ := h
  simp only [Value.slice.injEq] at e
  obtain ⟨rfl, rfl, rfl⟩ := e
  exact ⟨rfl, h1, h2⟩
theorem Sl.form {E : Enc α} {w : World} {X : Avoid} {v : Value} {l : List α} (h : Sl E w X v l) : ∃ A c, v = .slice A l.length c ∧ l.length ≤ c ∧ c ≤ maxLen := by
  obtain ⟨A, c, css, rfl, h1, h2, _⟩ := h
  exact ⟨A, c, rfl, h1, h2⟩
/-- the k-th element: its cells, and where they lie -/
theorem Sl.at_ {E : Enc α} {w : World} {X : Avoid} {A : Option Addr} {n c : Nat} {l : List α} (h : Sl E w X (.slice A n c) l) {k : Nat} (hk : k < l.length) :
    ∃ ad cs, A = some ad ∧ E.rep w X cs l[k] ∧ ad.block < w.heap.size ∧ ∀ j u, cs[j]? = some u → w.cell? (ad.add (k * E.size + j)) = some u := by
  obtain ⟨A', c', css, e, h1, h2, h3, h4, h5⟩ := h
  simp only [Value.slice.injEq] at e
  obtain ⟨rfl, rfl, rfl⟩ := e
  have hkc : k < css.length := by rw [h5.1]; exact hk
  obtain ⟨ad, he, hb, hcell⟩ := h3.2 (show 0 < l.length by omega)
  exact ⟨ad, css[k], he, h5.2 k _ _ (List.getElem?_eq_getElem hkc) (List.getElem?_eq_getElem hk), hb, fun j u hu => hcell _ u (flatten_at css k css[k] h5.lens (List.getElem?_eq_getElem hkc) j u hu)⟩
theorem add_pos (a : Addr) (i : Nat) (h : 0 < i) : a.add i = ⟨a.block, a.off + i, none⟩ := by
  unfold Addr.add
  rw [if_neg (by omega)]
/-- the cells of an element, as a walk spells them -/
theorem cell0 {w : World} {ad : Addr} {m : Nat} {cs : List Value} (h : ∀ j u, cs[j]? = some u → w.cell? (ad.add (m + j)) = some u) {u : Value} (hu : cs[0]? = some u) : w.cell? (ad.add m) = some u := h 0 u hu
theorem cellS {w : World} {ad : Addr} {m : Nat} {cs : List Value} (h : ∀ j u, cs[j]? = some u → w.cell? (ad.add (m + j)) = some u) (j : Nat) {u : Value} (hu : cs[j + 1]? = some u) : w.cell? ⟨(ad.add m).block, (ad.add m).off + (j + 1), none⟩ = some u := by
  have h1 := h (j + 1) u hu
  rw [← add_of_add, add_pos _ (j + 1) (by omega)] at h1
  exact h1
/-- slices of such, as a type of elements -/
def slice (E : Enc α) : Enc (List α) where
  size := 1
  rep w X cs l := ∃ v, cs = [v] ∧ Sl E w X v l
  len h := by obtain ⟨v, rfl, _⟩ := h; rfl
  one h := by
    obtain ⟨v, rfl, hb⟩ := h
    obtain ⟨A, c, rfl, _⟩ := hb.form
    intro u hu; simp at hu; subst hu; rfl
  chg h hc hs := by obtain ⟨v, rfl, hb⟩ := h; exact ⟨v, rfl, hb.chg hc hs⟩
  mono h hs := by obtain ⟨v, rfl, hb⟩ := h; exact ⟨v, rfl, hb.mono hs⟩
/-! ### what a law is handed -/
section
open Go.ChangeShapes Go.WideShapes Go.ChangeAt
def Opens (t : TypeId) (E : Enc α) : Prop :=
  ∀ (H : Type) (enc : TypeId × Value → H) (w : World) (fuel : Nat) (cs : List Value) (x : DataW H × List MemPlace),
    DataW.trod enc Try.prog w 0 (fun _ => true) true fuel t cs = some x → ∃ a, E.rep w noneAt cs a
theorem opens_int {t : TypeId} {k : IntKind} {lo hi : Int} (ht : Try.prog.underlying t = some (.int k)) (hl : ∀ n, (Lit.int k n).wf = true → lo ≤ n ∧ n ≤ hi) : Opens t (int k lo hi) := by
  intro H enc w fuel cs x h
  obtain ⟨n, rfl, _, hw⟩ := DataW.trod_int ht h
  exact ⟨n, rfl, hl n hw⟩
theorem wf_i64 (n : Int) (h : (Lit.int .i64 n).wf = true) : -9223372036854775808 ≤ n ∧ n ≤ 9223372036854775807 := by
  simpa [Lit.wf, IntKind.min, IntKind.max, IntKind.bits, IntKind.signed] using h
theorem wf_u64 (n : Int) (h : (Lit.int .u64 n).wf = true) : 0 ≤ n ∧ n ≤ 18446744073709551615 := by
  simpa [Lit.wf, IntKind.min, IntKind.max, IntKind.bits, IntKind.signed] using h
theorem opens_bool {t : TypeId} (ht : Try.prog.underlying t = some .bool) : Opens t bool := by
  intro H enc w fuel cs x h
  obtain ⟨b, rfl, _⟩ := DataW.trod_bool ht h
  exact ⟨b, rfl⟩
theorem opens_text {t : TypeId} (ht : Try.prog.underlying t = some .string) : Opens t text := by
  intro H enc w fuel cs x h
  obtain ⟨s, rfl, _, hs⟩ := DataW.trod_string ht h
  have e : s.data.toList.length = s.size := by cases s; rfl
  exact ⟨s.data.toList, rfl, by omega⟩
theorem opens_bytes {t e : TypeId} (ht : Try.prog.underlying t = some (.slice e)) (he : Try.prog.underlying e = some (.int .u8)) (hc : Try.prog.cellsOf e = 1) : Opens t byts := by
  intro H enc w fuel cs x h
  rcases open_ints ht he hc h with ⟨rfl, _⟩ | ⟨x, l, c, zs, rfl, _, hl, hm, hz, _, hcell, hwz⟩
  · exact ⟨[], _, rfl, .of (Bs.nil w)⟩
  · obtain ⟨b, hb⟩ := bs_of_ints hl hm (by simpa using hz) hcell hwz
    exact ⟨b, _, rfl, .of hb⟩
theorem exists_list {β : Type} (P : Nat → β → Prop) : ∀ n : Nat, (∀ i, i < n → ∃ b, P i b) → ∃ l : List β, l.length = n ∧ ∀ i b, l[i]? = some b → P i b
  | 0, _ => ⟨[], rfl, fun i b h => by simp at h⟩
  | n + 1, h => by
    obtain ⟨l, hl, hp⟩ := exists_list P n fun i hi => h i (by omega)
    obtain ⟨b, hb⟩ := h n (by omega)
    refine ⟨l ++ [b], by simp [hl], fun i c hc => ?_⟩
    by_cases hi : i < l.length
    · rw [List.getElem?_append_left hi] at hc; exact hp i c hc
    · rw [List.getElem?_append_right (by omega)] at hc
      have hin : i = n := by
        rcases Nat.lt_or_ge (i - l.length) 1 with h1 | h1
        · omega
        · rw [List.getElem?_eq_none (by simpa using h1)] at hc; cases hc
      subst hin
      have : i - l.length = 0 := by omega
      rw [this] at hc
      simp at hc; subst hc; exact hb
theorem opens_slice {t e : TypeId} {E : Enc α} (ht : Try.prog.underlying t = some (.slice e)) (hc : Try.prog.cellsOf e = E.size) (hpos : 0 < E.size) (ho : Opens e E) : Opens t (slice E) := by
  intro H enc w fuel cs x h
  rcases Go.Deep.open_slice ht h with ⟨rfl, _⟩ | ⟨a, len, cap, m, n, D, Pl, rfl, _, hl, hm, hmm, _, hi⟩
  · exact ⟨[], _, rfl, Sl.nil E w _⟩
  · have hlm : len ≤ m := by rw [hmm]; split <;> omega
    obtain ⟨z, hz, hp⟩ := exists_list (fun i (b : List Value × α) => (∀ j, j < E.size → w.cell? ((a.add (i * E.size)).add j) = b.1[j]?) ∧ E.rep w noneAt b.1 b.2) len fun i hil => by
      obtain ⟨cs', h1, h2⟩ := hi i (by omega)
      obtain ⟨y, hy⟩ := ho H enc w n cs' _ h2
      rw [hc] at h1
      obtain ⟨_, _, h3⟩ := World.cells?_some h1
      exact ⟨(cs', y), h3, hy⟩
    have hE : Each E w noneAt (z.map (·.1)) (z.map (·.2)) := by
      refine ⟨by simp, fun k c b h1 h2 => ?_⟩
      rw [List.getElem?_map, Option.map_eq_some_iff] at h1 h2
      obtain ⟨q, h1, rfl⟩ := h1
      obtain ⟨q', h2, rfl⟩ := h2
      rw [h1] at h2
      obtain rfl := Option.some.inj h2
      exact (hp k q h1).2
    have hlen : (z.map (·.2)).length = len := by simp [hz]
    refine ⟨z.map (·.2), .slice (some a) len cap, rfl, some a, cap, z.map (·.1), by rw [hlen], by rw [hlen]; exact hl, hm, ?_, fun _ _ _ h => h, hE⟩
    refine ⟨hE.len, fun h0 => ⟨a, rfl, ?_, ?_⟩⟩
    · -- where there is an element, its first cell lies in memory
      obtain ⟨q, hq⟩ : ∃ q, z[0]? = some q := ⟨z[0]'(by rw [hz]; omega), List.getElem?_eq_getElem _⟩
      obtain ⟨h3, h4⟩ := hp 0 q hq
      have hl4 := E.len h4
      have h5 := h3 0 (by omega)
      rw [List.getElem?_eq_getElem (by omega)] at h5
      have := World.block_lt_of_cell? w _ h5
      rwa [block_of_add, block_of_add] at this
    · intro j u hu
      have hj : j < len * E.size := by
        have := (List.getElem?_eq_some_iff.1 hu).1
        rw [hE.len, hlen] at this
        exact this
      have hk : j / E.size < z.length := by rw [hz]; exact Nat.div_lt_of_lt_mul (by rw [Nat.mul_comm]; exact hj)
      have hq : z[j / E.size]? = some z[j / E.size] := List.getElem?_eq_getElem hk
      obtain ⟨h3, h4⟩ := hp _ _ hq
      have hr : j % E.size < E.size := Nat.mod_lt _ hpos
      have hjj : j / E.size * E.size + j % E.size = j := by rw [Nat.mul_comm]; exact Nat.div_add_mod j E.size
      have hl4 := E.len h4
      have hin : z[j / E.size].1[j % E.size]? = some (z[j / E.size].1[j % E.size]'(by omega)) := List.getElem?_eq_getElem _
      have h6 := flatten_at (z.map (·.1)) (j / E.size) z[j / E.size].1 hE.lens (by rw [List.getElem?_map, hq]; rfl) (j % E.size) _ hin
      rw [hjj] at h6
      rw [h6] at hu
      obtain rfl := Option.some.inj hu
      have h7 := h3 _ hr
      rw [add_of_add, hjj, hin] at h7
      exact h7
/-- the fields of a struct, from a place on -/
inductive Fields : List Field → Nat → (α : Type) → Enc α → Prop
  | nil (o : Nat) : Fields [] o Unit unit
  | cons {f : Field} {fs : List Field} {o : Nat} {α β : Type} {E : Enc α} {F : Enc β} (ho : f.offset = o) (hs : Try.prog.cellsOf f.type = E.size) (hE : Opens f.type E) (h : Fields fs (o + E.size) β F) : Fields (f :: fs) o (α × β) (pair E F)
theorem Fields.get {H : Type} {enc : TypeId × Value → H} {w : World} {n : Nat} {cs : List Value} {fs : List Field} {o : Nat} {α : Type} {E : Enc α} (hF : Fields fs o α E) (hl : cs.length = o + E.size)
    (h : ∀ f ∈ fs, ∃ y, DataW.trod enc Try.prog w 0 (fun _ => true) true n f.type ((cs.drop f.offset).take (Try.prog.cellsOf f.type)) = some y) : ∃ a, E.rep w noneAt (cs.drop o) a := by
  induction hF with
  | nil o => exact ⟨(), List.drop_eq_nil_of_le (by rw [hl]; exact Nat.le_refl _)⟩
  | @cons f fs o α β E F ho hs hE hF ih =>
    obtain ⟨y, hy⟩ := h f List.mem_cons_self
    rw [ho, hs] at hy
    obtain ⟨a, ha⟩ := hE H enc w n _ y hy
    obtain ⟨b, hb⟩ := ih (by rw [hl]; show o + (E.size + F.size) = _; omega) fun g hg => h g (List.mem_cons_of_mem _ hg)
    refine ⟨(a, b), (cs.drop o).take E.size, cs.drop (o + E.size), ?_, ha, hb⟩
    rw [← List.drop_drop, List.take_append_drop]
theorem opens_struct {t : TypeId} {fs : Array Field} {α : Type} {E : Enc α} (ht : Try.prog.underlying t = some (.struct fs)) (hc : Try.prog.cellsOf t = E.size) (hF : Fields fs.toList 0 α E) : Opens t E := by
  intro H enc w fuel cs x h
  obtain ⟨xs, n, _, _, hl, hlen, hf⟩ := DataW.trod_struct ht h
  have := Fields.get (enc := enc) (w := w) (n := n) (cs := cs) hF (by rw [hl, hc]; omega) fun f hfm => by
    obtain ⟨i, hi⟩ := List.mem_iff_getElem?.1 hfm
    have hi' : fs[i]? = some f := by simpa using hi
    have h1 := hf i f hi'
    have hil : i < xs.length := by rw [hlen]; exact (Array.getElem?_eq_some_iff.1 hi').1
    rw [List.getElem?_eq_getElem hil] at h1
    exact ⟨_, h1⟩
  simpa using this
theorem Opens.map {t : TypeId} {α β : Type} {E : Enc β} (h : Opens t E) (f : α → β) (hf : ∀ b, ∃ a, f a = b) : Opens t (map E f) := by
  intro H enc w fuel cs x hx
  obtain ⟨b, hb⟩ := h H enc w fuel cs x hx
  obtain ⟨a, rfl⟩ := hf b
  exact ⟨a, hb⟩
end
end Enc
end Go.Proofs.Ytlblgopfdadalaa
namespace Go.Proofs.Ytlblgopfdadalaa
set_option linter.unusedVariables false
set_option linter.unusedSimpArgs false
set_option linter.unnecessarySimpa false
set_option maxRecDepth 100000
open Go.RowKit
structure Cm where
  kind : Int
  client : Int
  seq : Int
  name : Bytes
  url : Bytes
  till : Int
abbrev ccells (c : Cm) : Array Value := #[.int .i64 c.kind, .int .i64 c.client, .int .u64 c.seq, str c.name, str c.url, .int .u64 c.till]
abbrev cv (c : Cm) : Value := .agg (ccells c)
def Cm.zero : Cm := ⟨0, 0, 0, [], [], 0⟩
structure Cm.ok (c : Cm) : Prop where
  k0 : 0 ≤ c.kind
  k1 : c.kind ≤ 255
  c0 : 0 ≤ c.client
  c1 : c.client ≤ 255
  s0 : 0 ≤ c.seq
  s1 : c.seq ≤ 18446744073709551615
  n1 : c.name.length ≤ 4294967295
  u1 : c.url.length ≤ 4294967295
  t0 : 0 ≤ c.till
  t1 : c.till ≤ 18446744073709551615
def cbytes (c : Cm) : Bytes := be 1 c.kind.toNat ++ (be 1 c.client.toNat ++ (be 8 c.seq.toNat ++ (oputBytes [] c.name ++ (oputBytes [] c.url ++ be 8 c.till.toNat))))
def cput (c : Cm) : Bytes := if c.kind = 0 then [] else cbytes c
/-- bytes that are still to be read, and the first error -/
abbrev Rdr := Bytes × Int
def pnum (n : Nat) (s : Rdr) : Int × Rdr := if s.2 = 0 then (if s.1.length < n then (0, (s.1, 3)) else (((val (s.1.take n) : Nat) : Int), (s.1.drop n, 0))) else (0, s)
def ptext (s : Rdr) : Bytes × Rdr := if s.2 = 0 then ((otakeBytes s.1).1, (s.1.drop (otakeBytes s.1).2.1.toNat, (otakeBytes s.1).2.2)) else ([], s)
def pform (c : Bool) (s : Rdr) : Rdr := if s.2 = 0 ∧ c = true then (s.1, 2) else s
def pall (s : Rdr) : Cm × Rdr :=
  let a := pnum 1 s
  let s1 := pform (decide (a.1 = 0)) a.2
  let b := pnum 1 s1
  let c := pnum 8 b.2
  let d := ptext c.2
  let e := ptext d.2
  let f := pnum 8 e.2
  (⟨a.1, b.1, c.1, d.1, e.1, f.1⟩, pform (decide (0 < f.2.1.length)) f.2)
def ctake (b : Bytes) : Cm × Int := if b = [] then (Cm.zero, 0) else if (pall (b, 0)).2.2 = 0 then ((pall (b, 0)).1, 0) else (Cm.zero, (pall (b, 0)).2.2)
theorem pnum_bad (n : Nat) (s : Rdr) (h : s.2 ≠ 0) : pnum n s = (0, s) := if_neg h
theorem ptext_bad (s : Rdr) (h : s.2 ≠ 0) : ptext s = ([], s) := if_neg h
theorem pform_bad (c : Bool) (s : Rdr) (h : s.2 ≠ 0) : pform c s = s := if_neg fun k => h k.1
theorem pform_no (s : Rdr) : pform false s = s := if_neg fun k => by cases k.2
theorem pform_yes (b : Bytes) : pform true (b, 0) = (b, 2) := if_pos ⟨rfl, rfl⟩
theorem pnum_be (n : Nat) (v : Int) (r : Bytes) (h0 : 0 ≤ v) (h : v.toNat < 256 ^ n) : pnum n (be n v.toNat ++ r, 0) = (v, (r, 0)) := by
  have hl := be_length n v.toNat
  unfold pnum
  rw [if_pos rfl, if_neg (by simp [hl])]
  simp only
  rw [take_app _ _ _ hl, drop_app _ _ _ hl, val_be, Nat.mod_eq_of_lt h, Int.toNat_of_nonneg h0]
theorem pnum_short (n : Nat) (b : Bytes) (h : b.length < n) : pnum n (b, 0) = (0, (b, 3)) := by
  unfold pnum; rw [if_pos rfl, if_pos h]
theorem ptext_put (s r : Bytes) (h : s.length ≤ 4294967295) : ptext (oputBytes [] s ++ r, 0) = (s, (r, 0)) := by
  unfold ptext
  rw [if_pos rfl, otakeBytes_put s r (by omega)]
  simp only
  rw [drop_app _ _ _ (by rw [oputBytes_length]; simp; omega)]
theorem ptext_short (s : Bytes) (p : Nat) (h : s.length ≤ 4294967295) (hp : p < s.length + 4) : ptext ((oputBytes [] s).take p, 0) = ([], ((oputBytes [] s).take p, 3)) := by
  unfold ptext
  rw [if_pos rfl, otakeBytes_cut s p (by omega) hp]
  simp
theorem take_head {α : Type} (l m : List α) (p : Nat) (h : p < l.length) : (l ++ m).take p = l.take p := by rw [List.take_append_of_le_length (by omega)]
theorem take_tail {α : Type} (l m : List α) (p : Nat) (h : l.length ≤ p) : (l ++ m).take p = l ++ m.take (p - l.length) := by
  rw [List.take_append, List.take_of_length_le h]
theorem pow8 : 256 ^ 8 = 18446744073709551616 := rfl
theorem Cm.ok.kb {c : Cm} (h : c.ok) : c.kind.toNat < 256 ^ 1 := by have := h.k1; have := h.k0; omega
theorem Cm.ok.cb {c : Cm} (h : c.ok) : c.client.toNat < 256 ^ 1 := by have := h.c1; have := h.c0; omega
theorem Cm.ok.sb {c : Cm} (h : c.ok) : c.seq.toNat < 256 ^ 8 := by have := h.s1; have := h.s0; rw [pow8]; omega
theorem Cm.ok.tb {c : Cm} (h : c.ok) : c.till.toNat < 256 ^ 8 := by have := h.t1; have := h.t0; rw [pow8]; omega
/-- what is put is taken, whatever stands behind -/
theorem pall_put (c : Cm) (h : c.ok) (hk : c.kind ≠ 0) (r : Bytes) : pall (cbytes c ++ r, 0) = (c, pform (decide (0 < r.length)) (r, 0)) := by
  have e1 := pnum_be 1 c.kind (be 1 c.client.toNat ++ (be 8 c.seq.toNat ++ (oputBytes [] c.name ++ (oputBytes [] c.url ++ (be 8 c.till.toNat ++ r))))) h.k0 h.kb
  have e2 := pnum_be 1 c.client (be 8 c.seq.toNat ++ (oputBytes [] c.name ++ (oputBytes [] c.url ++ (be 8 c.till.toNat ++ r)))) h.c0 h.cb
  have e3 := pnum_be 8 c.seq (oputBytes [] c.name ++ (oputBytes [] c.url ++ (be 8 c.till.toNat ++ r))) h.s0 h.sb
  have e4 := ptext_put c.name (oputBytes [] c.url ++ (be 8 c.till.toNat ++ r)) h.n1
  have e5 := ptext_put c.url (be 8 c.till.toNat ++ r) h.u1
  have e6 := pnum_be 8 c.till r h.t0 h.tb
  have e0 : cbytes c ++ r = be 1 c.kind.toNat ++ (be 1 c.client.toNat ++ (be 8 c.seq.toNat ++ (oputBytes [] c.name ++ (oputBytes [] c.url ++ (be 8 c.till.toNat ++ r))))) := by
    unfold cbytes; simp only [List.append_assoc]
  rw [e0]
  unfold pall
  simp only [e1, decide_eq_false hk, pform_no, e2, e3, e4, e5, e6]
theorem cbytes_ne (c : Cm) (r : Bytes) : cbytes c ++ r ≠ [] := by
  intro e
  have := congrArg List.length e
  simp [cbytes, be_length] at this
theorem ctake_put (c : Cm) (h : c.ok) (hk : c.kind ≠ 0) : ctake (cput c) = (c, 0) := by
  have e := pall_put c h hk []
  rw [List.append_nil] at e
  have hn := cbytes_ne c []
  rw [List.append_nil] at hn
  rw [cput, if_neg hk, ctake, if_neg hn, e]
  rfl
/-! what is read is what was put -/
theorem pnum_inv (n : Nat) (s : Rdr) (h : (pnum n s).2.2 = 0) : s.2 = 0 ∧ s.1 = be n (pnum n s).1.toNat ++ (pnum n s).2.1 ∧ 0 ≤ (pnum n s).1 ∧ (pnum n s).1 < 256 ^ n := by
  obtain ⟨b, e⟩ := s
  unfold pnum at *
  by_cases he : e = 0
  · subst he
    rw [if_pos rfl] at *
    by_cases hl : b.length < n
    · rw [if_pos hl] at h; cases h
    · rw [if_neg hl] at *
      have hlt := val_lt (b.take n)
      have hln : (b.take n).length = n := by simp; omega
      rw [hln] at hlt
      refine ⟨rfl, ?_, by simp, by show ((val (b.take n) : Nat) : Int) < 256 ^ n; exact_mod_cast hlt⟩
      show b = be n ((val (b.take n) : Nat) : Int).toNat ++ b.drop n
      rw [Int.toNat_natCast]
      have e2 : b.take n = be n (val (b.take n)) := val_inj _ _ (by rw [hln, be_length]) (by rw [val_be, Nat.mod_eq_of_lt hlt])
      rw [← e2, List.take_append_drop]
  · rw [if_neg he] at h; exact absurd h he
theorem ptext_inv (s : Rdr) (h : (ptext s).2.2 = 0) : s.2 = 0 ∧ s.1 = oputBytes [] (ptext s).1 ++ (ptext s).2.1 ∧ (ptext s).1.length ≤ 4294967295 := by
  obtain ⟨b, e⟩ := s
  unfold ptext at *
  by_cases he : e = 0
  · subst he
    rw [if_pos rfl] at *
    simp only at h ⊢
    unfold otakeBytes at *
    by_cases hc : b.length < 4 ∨ b.length - 4 < val (b.take 4)
    · rw [if_pos hc] at h; cases h
    · rw [if_neg hc] at *
      have hl4 : (b.take 4).length = 4 := by simp; omega
      have hlt := val_lt (b.take 4)
      rw [hl4] at hlt
      have hk : ((b.drop 4).take (val (b.take 4))).length = val (b.take 4) := by simp; omega
      refine ⟨by trivial, ?_, ?_⟩
      · simp only [Int.toNat_natCast, oputBytes, List.nil_append]
        rw [hk]
        have e2 : b.take 4 = be 4 (val (b.take 4)) := val_inj _ _ (by rw [hl4, be_length]) (by rw [val_be, Nat.mod_eq_of_lt hlt])
        rw [← e2, ← List.drop_drop, List.append_assoc, List.take_append_drop, List.take_append_drop]
      · simp only
        rw [hk]
        have : (256 : Nat) ^ 4 = 4294967296 := rfl
        omega
  · rw [if_neg he] at h; exact absurd h he
theorem pform_inv (c : Bool) (s : Rdr) (h : (pform c s).2 = 0) : s.2 = 0 ∧ c = false ∧ pform c s = s := by
  unfold pform at *
  by_cases hc : s.2 = 0 ∧ c = true
  · rw [if_pos hc] at h; cases h
  · rw [if_neg hc] at *
    exact ⟨h, by cases c <;> simp_all, rfl⟩
theorem pall_inv (b : Bytes) (h : (pall (b, 0)).2.2 = 0) : b = cbytes (pall (b, 0)).1 ∧ (pall (b, 0)).1.ok ∧ (pall (b, 0)).1.kind ≠ 0 := by
  unfold pall at *
  simp only at h ⊢
  generalize ha : pnum 1 (b, (0 : Int)) = A at *
  generalize hb : pnum 1 (pform (decide (A.1 = 0)) A.2) = B at *
  generalize hc : pnum 8 B.2 = C at *
  generalize hd : ptext C.2 = D at *
  generalize he : ptext D.2 = E at *
  generalize hf : pnum 8 E.2 = F at *
  obtain ⟨f0, f1, f2⟩ := pform_inv _ _ h
  have f3 := pnum_inv 8 E.2 (by rw [hf]; exact f0)
  rw [hf] at f3
  have f4 := ptext_inv D.2 (by rw [he]; exact f3.1)
  rw [he] at f4
  have f5 := ptext_inv C.2 (by rw [hd]; exact f4.1)
  rw [hd] at f5
  have f6 := pnum_inv 8 B.2 (by rw [hc]; exact f5.1)
  rw [hc] at f6
  have f7 := pnum_inv 1 (pform (decide (A.1 = 0)) A.2) (by rw [hb]; exact f6.1)
  rw [hb] at f7
  obtain ⟨g0, g1, g2⟩ := pform_inv _ _ f7.1
  rw [g2] at f7
  have f8 := pnum_inv 1 (b, (0 : Int)) (by rw [ha]; exact g0)
  rw [ha] at f8
  have p1 : (256 : Int) ^ 1 = 256 := rfl
  have p8 : (256 : Int) ^ 8 = 18446744073709551616 := rfl
  rw [p8] at f3 f6
  rw [p1] at f7 f8
  have hz : F.2.1 = [] := by
    have : ¬ 0 < F.2.1.length := of_decide_eq_false f1
    exact List.length_eq_zero_iff.1 (by omega)
  refine ⟨?_, ⟨f8.2.2.1, by have := f8.2.2.2; show A.1 ≤ 255; omega, f7.2.2.1, by have := f7.2.2.2; show B.1 ≤ 255; omega, f6.2.2.1, by have := f6.2.2.2; show C.1 ≤ 18446744073709551615; omega, f5.2.2, f4.2.2, f3.2.2.1, by have := f3.2.2.2; show F.1 ≤ 18446744073709551615; omega⟩, of_decide_eq_false g1⟩
  unfold cbytes
  simp only
  have q1 := f8.2.1
  rw [f7.2.1, f6.2.1, f5.2.1, f4.2.1, f3.2.1, hz, List.append_nil] at q1
  exact q1
theorem cput_take (b : Bytes) (h : (ctake b).2 = 0) : cput (ctake b).1 = b ∧ (ctake b).1.ok := by
  unfold ctake at *
  by_cases hb : b = []
  · rw [if_pos hb]
    subst hb
    exact ⟨rfl, by constructor <;> simp [Cm.zero]⟩
  · rw [if_neg hb] at *
    by_cases he : (pall (b, 0)).2.2 = 0
    · rw [if_pos he] at *
      obtain ⟨h1, h2, h3⟩ := pall_inv b he
      refine ⟨?_, h2⟩
      show cput (pall (b, 0)).1 = b
      rw [cput, if_neg h3, ← h1]
    · rw [if_neg he] at h; exact absurd h he
end Go.Proofs.Ytlblgopfdadalaa
