/- A part of the proof of 'StateAll'. -/
import Derived.Test.YtamimdlaclglkaaGreatA2
import Derived.Deep.Slices
import Derived.Deep.Fields
import Derived.ChangeSame
import Derived.Test.YtamimdlaclglkaaGreatA1
import Derived.Deep.WholeRow
import Derived.Lib.SlBytesConst
namespace Go.Proofs.YtamimdlaclglkaaGreat
set_option linter.unusedVariables false
set_option linter.unusedSimpArgs false
set_option linter.unnecessarySimpa false
set_option maxRecDepth 100000
open Go.RowKit
/-- blocks in which nothing is read -/
abbrev Avoid := Nat → Prop
abbrev noneAt : Avoid := fun _ => False
structure Enc (α : Type) where
 size : Nat
 rep : World → Avoid → List Value → α → Prop
 len : ∀ {w X cs a}, rep w X cs a → cs.length = size
 one : ∀ {w X cs a}, rep w X cs a → ∀ u ∈ cs, u.oneCell' = true
 chg : ∀ {w w' X S cs a}, rep w X cs a → Chg S w w' → (∀ k, k ∈ S → k < w.heap.size → X k) → rep w' X cs a
 mono : ∀ {w X Y cs a}, rep w X cs a → (∀ k, k < w.heap.size → Y k → X k) → rep w Y cs a
namespace Enc
variable {α β : Type}
theorem ext (E : Enc α) {w w' : World} {X : Avoid} {cs : List Value} {a : α} (h : E.rep w X cs a) (hx : Ext w w') : E.rep w' X cs a := E.chg h (hx.chg []) (by simp)
def int (k : IntKind) (lo hi : Int) : Enc Int where
 size := 1
 rep _ _ cs n := cs = [.int k n] ∧ lo ≤ n ∧ n ≤ hi
 len h := by rw [h.1]; rfl
 one h := by rw [h.1]; intro u hu; simp at hu; subst hu; rfl
 chg h _ _ := h
 mono h _ := h
abbrev i64 : Enc Int := int .i64 (-9223372036854775808) 9223372036854775807
abbrev u64 : Enc Int := int .u64 0 18446744073709551615
abbrev u8 : Enc Int := int .u8 0 255
def bool : Enc Bool where
 size := 1
 rep _ _ cs b := cs = [.bool b]
 len h := by rw [h]; rfl
 one h := by rw [h]; intro u hu; simp at hu; subst hu; rfl
 chg h _ _ := h
 mono h _ := h
def text : Enc Bytes where
 size := 1
 rep _ _ cs l := cs = [str l] ∧ l.length ≤ maxLen
 len h := by rw [h.1]; rfl
 one h := by rw [h.1]; intro u hu; simp at hu; subst hu; rfl
 chg h _ _ := h
 mono h _ := h
/-- v is a slice whose bytes, read in w, are l, and they lie in no block of X -/
def BsX (w : World) (X : Avoid) (v : Value) (l : Bytes) : Prop := Bs w v l ∧ ∀ ad n c, v = .slice (some ad) n c → 0 < n → ¬ X ad.block
end Enc
theorem Bs.lt {w : World} {ad : Addr} {n c : Nat} {l : Bytes} (h : Bs w (.slice (some ad) n c) l) (h0 : 0 < n) : ad.block < w.heap.size := by
 obtain ⟨_, _, _, hr⟩ := h.inv
 obtain ⟨ad', he, hb, _⟩ := hr.2 h0
 rw [Option.some.inj he]; exact hb
namespace Enc
variable {α β : Type}
theorem BsX.chg {w w' : World} {X : Avoid} {S : List Nat} {v : Value} {l : Bytes} (h : BsX w X v l) (hc : Chg S w w') (hs : ∀ k, k ∈ S → k < w.heap.size → X k) : BsX w' X v l :=
 ⟨h.1.chg hc fun ad n c he h0 hm => h.2 ad n c he h0 (hs _ hm (by subst he; exact h.1.lt h0)), h.2⟩
theorem BsX.mono {w : World} {X Y : Avoid} {v : Value} {l : Bytes} (h : BsX w X v l) (hs : ∀ k, k < w.heap.size → Y k → X k) : BsX w Y v l :=
 ⟨h.1, fun ad n c he h0 hy => h.2 ad n c he h0 (hs _ (by subst he; exact h.1.lt h0) hy)⟩
theorem BsX.ext {w w' : World} {X : Avoid} {v : Value} {l : Bytes} (h : BsX w X v l) (hx : Ext w w') : BsX w' X v l := h.chg (hx.chg []) (by simp)
theorem BsX.of {w : World} {v : Value} {l : Bytes} (h : Bs w v l) : BsX w noneAt v l := ⟨h, fun _ _ _ _ _ h => h⟩
theorem BsX.off {w : World} {X : Avoid} {v : Value} {l : Bytes} (h : BsX w X v l) {S : List Nat} (hs : ∀ k, k ∈ S → X k) : Off v S := fun ad n c he h0 hm => h.2 ad n c he h0 (hs _ hm)
theorem BsX.nil (w : World) (X : Avoid) : BsX w X (.slice none 0 0) [] := ⟨Bs.nil w, fun _ _ _ he => by cases he⟩
theorem BsX.nw {w0 w : World} {X : Avoid} {v : Value} {l : Bytes} (h : Nw w0 w v l) (hX : ∀ k, X k → k < w0.heap.size) : BsX w X v l :=
 ⟨h.bs, fun ad n c he h0 hx => by have h1 := (h.lt ad.block (by rw [he]; rfl)).1; have h2 := hX _ hx; omega⟩
def unit : Enc Unit where
 size := 0
 rep _ _ cs _ := cs = []
 len h := by rw [h]; rfl
 one h := by rw [h]; intro u hu; cases hu
 chg h _ _ := h
 mono h _ := h
def pair (E : Enc α) (F : Enc β) : Enc (α × β) where
 size := E.size + F.size
 rep w X cs a := ∃ c1 c2, cs = c1 ++ c2 ∧ E.rep w X c1 a.1 ∧ F.rep w X c2 a.2
 len h := by obtain ⟨c1, c2, rfl, h1, h2⟩ := h; rw [List.length_append, E.len h1, F.len h2]
 one h := by
  obtain ⟨c1, c2, rfl, h1, h2⟩ := h
  intro u hu
  rcases List.mem_append.1 hu with h | h
  ·exact E.one h1 u h
  ·exact F.one h2 u h
 chg h hc hs := by obtain ⟨c1, c2, rfl, h1, h2⟩ := h; exact ⟨c1, c2, rfl, E.chg h1 hc hs, F.chg h2 hc hs⟩
 mono h hs := by obtain ⟨c1, c2, rfl, h1, h2⟩ := h; exact ⟨c1, c2, rfl, E.mono h1 hs, F.mono h2 hs⟩
def map (E : Enc β) (f : α → β) : Enc α where
 size := E.size
 rep w X cs a := E.rep w X cs (f a)
 len h := E.len h
 one h := E.one h
 chg h hc hs := E.chg h hc hs
 mono h hs := E.mono h hs
/-- side by side, each element's cells -/
def Each (E : Enc α) (w : World) (X : Avoid) (css : List (List Value)) (l : List α) : Prop :=
 css.length = l.length ∧ ∀ (k : Nat) cs a, css[k]? = some cs → l[k]? = some a → E.rep w X cs a
theorem Each.chg {E : Enc α} {w w' : World} {X : Avoid} {S : List Nat} {css : List (List Value)} {l : List α} (h : Each E w X css l) (hc : Chg S w w') (hs : ∀ k, k ∈ S → k < w.heap.size → X k) : Each E w' X css l :=
 ⟨h.1, fun k cs a h1 h2 => E.chg (h.2 k cs a h1 h2) hc hs⟩
theorem Each.ext {E : Enc α} {w w' : World} {X : Avoid} {css : List (List Value)} {l : List α} (h : Each E w X css l) (hx : Ext w w') : Each E w' X css l := h.chg (hx.chg []) (by simp)
theorem Each.mono {E : Enc α} {w : World} {X Y : Avoid} {css : List (List Value)} {l : List α} (h : Each E w X css l) (hs : ∀ k, k < w.heap.size → Y k → X k) : Each E w Y css l :=
 ⟨h.1, fun k cs a h1 h2 => E.mono (h.2 k cs a h1 h2) hs⟩
theorem Each.nil (E : Enc α) (w : World) (X : Avoid) : Each E w X [] [] := ⟨rfl, fun k cs a h => by simp at h⟩
theorem Each.app {E : Enc α} {w : World} {X : Avoid} {css css' : List (List Value)} {l l' : List α} (h : Each E w X css l) (h' : Each E w X css' l') : Each E w X (css ++ css') (l ++ l') := by
 refine ⟨by simp [h.1, h'.1], fun k cs a h1 h2 => ?_⟩
 by_cases hk : k < css.length
 ·rw [List.getElem?_append_left hk] at h1
  rw [List.getElem?_append_left (by rw [← h.1]; exact hk)] at h2
  exact h.2 k cs a h1 h2
 ·rw [List.getElem?_append_right (by omega)] at h1
  rw [List.getElem?_append_right (by rw [← h.1]; omega), ← h.1] at h2
  exact h'.2 _ cs a h1 h2
theorem Each.single {E : Enc α} {w : World} {X : Avoid} {cs : List Value} {a : α} (h : E.rep w X cs a) : Each E w X [cs] [a] :=
 ⟨rfl, fun k cs' a' h1 h2 => by rcases k with _ | k <;> simp at h1 h2; subst h1 h2; exact h⟩
theorem Each.take {E : Enc α} {w : World} {X : Avoid} {css : List (List Value)} {l : List α} (h : Each E w X css l) (n : Nat) : Each E w X (css.take n) (l.take n) := by
 refine ⟨by simp [h.1], fun k cs a h1 h2 => ?_⟩
 rw [List.getElem?_take] at h1 h2
 by_cases hk : k < n
 ·rw [if_pos hk] at h1 h2; exact h.2 k cs a h1 h2
 ·rw [if_neg hk] at h1; cases h1
theorem Each.drop {E : Enc α} {w : World} {X : Avoid} {css : List (List Value)} {l : List α} (h : Each E w X css l) (n : Nat) : Each E w X (css.drop n) (l.drop n) := by
 refine ⟨by simp [h.1], fun k cs a h1 h2 => ?_⟩
 rw [List.getElem?_drop] at h1 h2
 exact h.2 _ cs a h1 h2
theorem Each.len {E : Enc α} {w : World} {X : Avoid} : ∀ {css : List (List Value)} {l : List α}, Each E w X css l → css.flatten.length = l.length * E.size
 | [], l, h => by have : l = [] := List.eq_nil_of_length_eq_zero h.1.symm; subst this; simp
 | cs :: css, [], h => by cases h.1
 | cs :: css, a :: l, h => by
  have h1 := E.len (h.2 0 cs a rfl rfl)
  have h2 : Each E w X css l := ⟨by simpa using h.1, fun k c b hc hb => h.2 (k + 1) c b (by simpa using hc) (by simpa using hb)⟩
  rw [List.flatten_cons, List.length_append, h1, h2.len, List.length_cons, Nat.succ_mul]; omega
theorem Each.one {E : Enc α} {w : World} {X : Avoid} {css : List (List Value)} {l : List α} (h : Each E w X css l) : ∀ u ∈ css.flatten, u.oneCell' = true := by
 intro u hu
 obtain ⟨cs, hcs, hm⟩ := List.mem_flatten.1 hu
 obtain ⟨k, hk⟩ := List.mem_iff_getElem?.1 hcs
 have hkl : k < l.length := by rw [← h.1]; exact (List.getElem?_eq_some_iff.1 hk).1
 exact E.one (h.2 k cs l[k] hk (List.getElem?_eq_getElem hkl)) u hm
theorem flatten_at {s : Nat} : ∀ (css : List (List Value)) (k : Nat) (cs : List Value), (∀ c ∈ css, c.length = s) → css[k]? = some cs → ∀ j u, cs[j]? = some u → css.flatten[k * s + j]? = some u
 | [], k, cs, _, h => by simp at h
 | c :: css, 0, cs, hl, h => by
  intro j u hu
  simp at h; subst h
  have hj := (List.getElem?_eq_some_iff.1 hu).1
  rw [Nat.zero_mul, Nat.zero_add, List.flatten_cons, List.getElem?_append_left hj]
  exact hu
 | c :: css, k + 1, cs, hl, h => by
  intro j u hu
  have h1 := flatten_at css k cs (fun c hc => hl c (List.mem_cons_of_mem _ hc)) (by simpa using h) j u hu
  have hc := hl c List.mem_cons_self
  rw [List.flatten_cons, List.getElem?_append_right (by rw [hc, Nat.succ_mul]; omega), hc]
  have : (k + 1) * s + j - s = k * s + j := by rw [Nat.succ_mul]; omega
  rw [this]
  exact h1
theorem Each.lens {E : Enc α} {w : World} {X : Avoid} {css : List (List Value)} {l : List α} (h : Each E w X css l) : ∀ c ∈ css, c.length = E.size := by
 intro c hc
 obtain ⟨k, hk⟩ := List.mem_iff_getElem?.1 hc
 have hkl : k < l.length := by rw [← h.1]; exact (List.getElem?_eq_some_iff.1 hk).1
 exact E.len (h.2 k c l[k] hk (List.getElem?_eq_getElem hkl))
/-- v is a slice that reads as the list l -/
def Sl (E : Enc α) (w : World) (X : Avoid) (v : Value) (l : List α) : Prop :=
 ∃ A c css, v = .slice A l.length c ∧ l.length ≤ c ∧ c ≤ maxLen ∧ Reads w w.heap.size E.size A l.length css.flatten ∧ (∀ ad, A = some ad → 0 < l.length → ¬ X ad.block) ∧ Each E w X css l
theorem Sl.chg {E : Enc α} {w w' : World} {X : Avoid} {S : List Nat} {v : Value} {l : List α} (h : Sl E w X v l) (hc : Chg S w w') (hs : ∀ k, k ∈ S → k < w.heap.size → X k) : Sl E w' X v l := by
 obtain ⟨A, c, css, rfl, h1, h2, h3, h4, h5⟩ := h
 refine ⟨A, c, css, rfl, h1, h2, h3.chg hc (fun ad he h0 hm => h4 ad he h0 (hs _ hm ?_)), h4, h5.chg hc hs⟩
 obtain ⟨ad', he', hb, _⟩ := h3.2 h0
 rw [he] at he'
 rw [Option.some.inj he']; exact hb
theorem Sl.ext {E : Enc α} {w w' : World} {X : Avoid} {v : Value} {l : List α} (h : Sl E w X v l) (hx : Ext w w') : Sl E w' X v l := h.chg (hx.chg []) (by simp)
theorem Sl.mono {E : Enc α} {w : World} {X Y : Avoid} {v : Value} {l : List α} (h : Sl E w X v l) (hs : ∀ k, k < w.heap.size → Y k → X k) : Sl E w Y v l := by
 obtain ⟨A, c, css, rfl, h1, h2, h3, h4, h5⟩ := h
 refine ⟨A, c, css, rfl, h1, h2, h3, (fun ad he h0 hy => h4 ad he h0 (hs _ ?_ hy)), h5.mono hs⟩
 obtain ⟨ad', he', hb, _⟩ := h3.2 h0
 rw [he] at he'
 rw [Option.some.inj he']; exact hb
theorem Sl.nil (E : Enc α) (w : World) (X : Avoid) : Sl E w X (.slice none 0 0) [] :=
 ⟨none, 0, [], rfl, Nat.le_refl _, by simp [maxLen], ⟨by simp, fun h => by simp at h⟩, (fun _ he => by cases he), Each.nil E w X⟩
theorem Sl.inv {E : Enc α} {w : World} {X : Avoid} {A : Option Addr} {n c : Nat} {l : List α} (h : Sl E w X (.slice A n c) l) : n = l.length ∧ n ≤ c ∧ c ≤ maxLen := by
 obtain ⟨A', c', css, e, h1, h2, _⟩ := h
 simp only [Value.slice.injEq] at e
 obtain ⟨rfl, rfl, rfl⟩ := e
 exact ⟨rfl, h1, h2⟩
theorem Sl.form {E : Enc α} {w : World} {X : Avoid} {v : Value} {l : List α} (h : Sl E w X v l) : ∃ A c, v = .slice A l.length c ∧ l.length ≤ c ∧ c ≤ maxLen := by
 obtain ⟨A, c, css, rfl, h1, h2, _⟩ := h
 exact ⟨A, c, rfl, h1, h2⟩
/-- the k-th element: its cells, and where they lie -/
theorem Sl.at_ {E : Enc α} {w : World} {X : Avoid} {A : Option Addr} {n c : Nat} {l : List α} (h : Sl E w X (.slice A n c) l) {k : Nat} (hk : k < l.length) :
  ∃ ad cs, A = some ad ∧ E.rep w X cs l[k] ∧ ad.block < w.heap.size ∧ ∀ j u, cs[j]? = some u → w.cell? (ad.add (k * E.size + j)) = some u := by
 obtain ⟨A', c', css, e, h1, h2, h3, h4, h5⟩ := h
 simp only [Value.slice.injEq] at e
 obtain ⟨rfl, rfl, rfl⟩ := e
 have hkc : k < css.length := by rw [h5.1]; exact hk
 obtain ⟨ad, he, hb, hcell⟩ := h3.2 (show 0 < l.length by omega)
 exact ⟨ad, css[k], he, h5.2 k _ _ (List.getElem?_eq_getElem hkc) (List.getElem?_eq_getElem hk), hb, fun j u hu => hcell _ u (flatten_at css k css[k] h5.lens (List.getElem?_eq_getElem hkc) j u hu)⟩
theorem add_pos (a : Addr) (i : Nat) (h : 0 < i) : a.add i = ⟨a.block, a.off + i, none⟩ := by
 unfold Addr.add
 rw [if_neg (by omega)]
/-- the cells of an element, as a walk spells them -/
theorem cell0 {w : World} {ad : Addr} {m : Nat} {cs : List Value} (h : ∀ j u, cs[j]? = some u → w.cell? (ad.add (m + j)) = some u) {u : Value} (hu : cs[0]? = some u) : w.cell? (ad.add m) = some u := h 0 u hu
theorem cellS {w : World} {ad : Addr} {m : Nat} {cs : List Value} (h : ∀ j u, cs[j]? = some u → w.cell? (ad.add (m + j)) = some u) (j : Nat) {u : Value} (hu : cs[j + 1]? = some u) : w.cell? ⟨(ad.add m).block, (ad.add m).off + (j + 1), none⟩ = some u := by
 have h1 := h (j + 1) u hu
 rw [← add_of_add, add_pos _ (j + 1) (by omega)] at h1
 exact h1
/-- slices of such, as a type of elements -/
def slice (E : Enc α) : Enc (List α) where
 size := 1
 rep w X cs l := ∃ v, cs = [v] ∧ Sl E w X v l
 len h := by obtain ⟨v, rfl, _⟩ := h; rfl
 one h := by
  obtain ⟨v, rfl, hb⟩ := h
  obtain ⟨A, c, rfl, _⟩ := hb.form
  intro u hu; simp at hu; subst hu; rfl
 chg h hc hs := by obtain ⟨v, rfl, hb⟩ := h; exact ⟨v, rfl, hb.chg hc hs⟩
 mono h hs := by obtain ⟨v, rfl, hb⟩ := h; exact ⟨v, rfl, hb.mono hs⟩
/-! ### what a law is handed -/
section
open Go.ChangeShapes Go.WideShapes Go.ChangeAt
def Opens (t : TypeId) (E : Enc α) : Prop :=
 ∀ (H : Type) (enc : TypeId × Value → H) (w : World) (fuel : Nat) (cs : List Value) (x : DataW H × List MemPlace),
  DataW.trod enc Tryz.prog w 0 (fun _ => true) true fuel t cs = some x → ∃ a, E.rep w noneAt cs a
/-- the fields of a struct, from a place on -/
inductive Fields : List Field → Nat → (α : Type) → Enc α → Prop
 | nil (o : Nat) : Fields [] o Unit unit
 | cons {f : Field} {fs : List Field} {o : Nat} {α β : Type} {E : Enc α} {F : Enc β} (ho : f.offset = o) (hs : Tryz.prog.cellsOf f.type = E.size) (hE : Opens f.type E) (h : Fields fs (o + E.size) β F) : Fields (f :: fs) o (α × β) (pair E F)
theorem Opens.map {t : TypeId} {α β : Type} {E : Enc β} (h : Opens t E) (f : α → β) (hf : ∀ b, ∃ a, f a = b) : Opens t (map E f) := by
 intro H enc w fuel cs x hx
 obtain ⟨b, hb⟩ := h H enc w fuel cs x hx
 obtain ⟨a, rfl⟩ := hf b
 exact ⟨a, hb⟩
end
end Enc
end Go.Proofs.YtamimdlaclglkaaGreat
namespace Go.Proofs.YtamimdlaclglkaaGreat
set_option linter.unusedVariables false
set_option linter.unusedSimpArgs false
set_option linter.unnecessarySimpa false
set_option maxRecDepth 100000
open Go.RowKit
end Go.Proofs.YtamimdlaclglkaaGreat
namespace Go.Proofs.YtamimdlaclglkaaGreat.Crc
set_option linter.unusedVariables false
set_option linter.unusedSimpArgs false
set_option linter.unnecessarySimpa false
set_option maxRecDepth 100000
/-- one bit of a sum taken in -/
def step (c : Nat) : Nat := c / 2 ^^^ (if c % 2 = 1 then 3988292384 else 0)
def steps : Nat → Nat → Nat
 | 0, c => c
 | n + 1, c => steps n (step c)
def tab (i : Nat) : Nat := steps 8 i
/-- one byte taken in -/
def byte (c : Nat) (x : UInt8) : Nat := tab (c % 256 ^^^ x.toNat) ^^^ c / 256
def from_ (c : Nat) (l : List UInt8) : Nat := l.foldl byte c
def sum (l : List UInt8) : Nat := 4294967295 - from_ 4294967295 l
end Go.Proofs.YtamimdlaclglkaaGreat.Crc
namespace Go.Proofs.YtamimdlaclglkaaGreat
set_option linter.unusedVariables false
set_option linter.unusedSimpArgs false
set_option linter.unnecessarySimpa false
set_option maxRecDepth 100000
open Go.RowKit
end Go.Proofs.YtamimdlaclglkaaGreat
namespace Go.Proofs.YtamimdlaclglkaaGreat
set_option linter.unusedVariables false
set_option linter.unusedSimpArgs false
set_option linter.unnecessarySimpa false
set_option maxRecDepth 100000
open Go.RowKit
end Go.Proofs.YtamimdlaclglkaaGreat
namespace Go.Proofs.YtamimdlaclglkaaGreat
set_option linter.unusedVariables false
set_option linter.unusedSimpArgs false
set_option linter.unnecessarySimpa false
set_option maxRecDepth 100000
open Go.RowKit
theorem own_ext {w w' : World} {base n : Nat} {e : TypeId} {size : Nat} {v : Value} {xs : List Value} (h : w.ownsRow base e size v n xs) (hx : Ext w w') : w'.ownsRow base e size v n xs := by
 refine ⟨h.1, ?_⟩
 rcases h.2 with h2 | ⟨g, cap, cur, hv, hg, hh, r⟩
 ·exact .inl h2
 ·exact .inr ⟨g, cap, cur, hv, hg, (Blk.ext (t := e) hh hx), r⟩
end Go.Proofs.YtamimdlaclglkaaGreat
namespace Go.Proofs.YtamimdlaclglkaaGreat
set_option linter.unusedVariables false
set_option linter.unusedSimpArgs false
set_option linter.unnecessarySimpa false
set_option maxRecDepth 100000
open Go.RowKit
/-- none yet, and no room -/
def App0 (w0 W : World) (v : Value) : Prop := ∃ A, v = .slice A 0 0 ∧ ∀ a, A = some a → w0.heap.size ≤ a.block ∧ a.block < W.heap.size
theorem App0.size {w0 W W' : World} {v : Value} (h : App0 w0 W v) (hs : W.heap.size ≤ W'.heap.size) : App0 w0 W' v := by
 obtain ⟨A, rfl, h2⟩ := h
 exact ⟨A, rfl, fun a ha => ⟨(h2 a ha).1, Nat.lt_of_lt_of_le (h2 a ha).2 hs⟩⟩
theorem App0.ext {w0 W W' : World} {v : Value} (h : App0 w0 W v) (hx : Ext W W') : App0 w0 W' v := h.size hx.size
theorem App0.lit {w0 w : World} (hx : Ext w0 w) (g : Nat) (hg : w.heap.size = g) (o : Obj) : App0 w0 (w.alloc o) (.slice (some ⟨g, 0, none⟩) 0 0) := by
 subst hg
 refine ⟨_, rfl, fun a ha => ?_⟩
 obtain rfl := Option.some.inj ha
 exact ⟨hx.size, by simp⟩
theorem App0.nil (w0 W : World) : App0 w0 W (.slice none 0 0) := ⟨none, rfl, fun a ha => by cases ha⟩
def App (w0 W : World) (v : Value) (l : Bytes) : Prop := (l = [] ∧ App0 w0 W v) ∨ Nw w0 W v l
theorem App.bs {w0 W : World} {v : Value} {l : Bytes} (h : App w0 W v l) : Bs W v l := by
 rcases h with ⟨rfl, A, rfl, _⟩ | h
 ·exact Bs.mk' rfl (Nat.le_refl _) (by simp [maxLen]) ⟨rfl, fun h => absurd h (by omega)⟩
 ·exact h.bs
theorem App.ext {w0 W W' : World} {v : Value} {l : Bytes} (h : App w0 W v l) (hx : Ext W W') : App w0 W' v l := by
 rcases h with ⟨h, h2⟩ | h
 ·exact .inl ⟨h, h2.ext hx⟩
 ·exact .inr (own_ext h hx)
theorem App.trans {w0 w1 W : World} {v : Value} {l : Bytes} (h : App w1 W v l) (hx : Ext w0 w1) : App w0 W v l := by
 rcases h with ⟨h, A, h2, h3⟩ | h
 ·exact .inl ⟨h, A, h2, fun a ha => ⟨Nat.le_trans hx.size (h3 a ha).1, (h3 a ha).2⟩⟩
 ·exact .inr (h.trans hx)
theorem App0.app {w0 W : World} {v : Value} (h : App0 w0 W v) : App w0 W v [] := .inl ⟨rfl, h⟩
theorem App.form {w0 W : World} {v : Value} {l : Bytes} (h : App w0 W v l) : ∃ A c, v = .slice A l.length c := by
 obtain ⟨A, c, rfl, _⟩ := h.bs
 exact ⟨A, c, rfl⟩
theorem App.off {w0 W : World} {v : Value} {l : Bytes} (h : App w0 W v l) {S : List Nat} (hs : ∀ k, k ∈ S → k < w0.heap.size) : Off v S := by
 rcases h with ⟨rfl, A, rfl, _⟩ | h
 ·rintro ad n c he h0
  simp only [Value.slice.injEq] at he
  omega
 ·exact h.off hs
end Go.Proofs.YtamimdlaclglkaaGreat
namespace Go.Proofs.YtamimdlaclglkaaGreat
set_option linter.unusedVariables false
set_option linter.unusedSimpArgs false
set_option linter.unnecessarySimpa false
set_option maxRecDepth 100000
open Go.RowKit
/-- an element type as the program knows it -/
structure Elt {α : Type} (T : TypeId) (E : Enc α) (z : Value) (bytes : Nat) : Prop where
 info : (Tryz.prog.info? T).map (fun i => (i.zero, i.size, i.bytes)) = some (some z, E.size, bytes)
 zs : z.cells.size = E.size
 pos : 0 < E.size
/-- a slice of new memory that reads as l; its elements lie neither in its own block nor in one of X -/
def Own {α : Type} (T : TypeId) (E : Enc α) (w0 w : World) (X : Avoid) (v : Value) (l : List α) : Prop :=
 ∃ css, w.ownsRow w0.heap.size T E.size v l.length css.flatten ∧ Enc.Each E w (fun k => X k ∨ v.ownBlock = some k) css l ∧ ∀ k, v.ownBlock = some k → ¬ X k
section
variable {α : Type} {T : TypeId} {E : Enc α} {w0 w w' : World} {X Y : Avoid} {v : Value} {l m : List α}
theorem Own.form (h : Own T E w0 w X v l) : ∃ A c, v = .slice A l.length c ∧ l.length ≤ c ∧ c ≤ maxLen := by
 obtain ⟨css, h1, _⟩ := h
 exact own_slice h1
theorem Own.lt (h : Own T E w0 w X v l) : ∀ k, v.ownBlock = some k → w0.heap.size ≤ k ∧ k < w.heap.size := by
 obtain ⟨css, h1, _⟩ := h
 exact h1.lt
theorem Own.sl (h : Own T E w0 w X v l) : Enc.Sl E w X v l := by
 obtain ⟨css, h1, h2, h3⟩ := h
 obtain ⟨A, c, rfl, h4, h5⟩ := own_slice h1
 refine ⟨A, c, css, rfl, h4, h5, Reads.of_own h1, ?_, h2.mono fun k _ hk => .inl hk⟩
 rintro ad rfl _
 exact h3 _ rfl
theorem Own.nil (T : TypeId) (E : Enc α) (w0 w : World) (X : Avoid) : Own T E w0 w X (.slice none 0 0) [] :=
 ⟨[], by simpa using World.ownsRow_nil w w0.heap.size T E.size, Enc.Each.nil E w _, fun _ h => by cases h⟩
theorem Own.lit0 (T : TypeId) (E : Enc α) (hx : Ext w0 w) (g : Nat) (hg : w.heap.size = g) (hX : ¬ X g) : Own T E w0 (w.alloc (.cells #[] T)) X (.slice (some ⟨g, 0, none⟩) 0 0) [] := by
 subst hg
 refine ⟨[], by simpa using World.ownsRow_lit (size := E.size) w #[] 0 hx.size (by decide) (by simp), Enc.Each.nil E _ _, fun k hk => ?_⟩
 obtain rfl := Option.some.inj hk
 exact hX
theorem Own.ext (h : Own T E w0 w X v l) (hx : Ext w w') : Own T E w0 w' X v l := by
 obtain ⟨css, h1, h2, h3⟩ := h
 exact ⟨css, own_ext h1 hx, h2.ext hx, h3⟩
theorem Own.trans (h : Own T E w w' X v l) (hx : Ext w0 w) : Own T E w0 w' X v l := by
 obtain ⟨css, h1, h2, h3⟩ := h
 exact ⟨css, own_base h1 hx.size, h2, h3⟩
theorem Own.mono (h : Own T E w0 w X v l) (hs : ∀ k, k < w.heap.size → Y k → X k) : Own T E w0 w Y v l := by
 obtain ⟨css, h1, h2, h3⟩ := h
 refine ⟨css, h1, h2.mono fun k hk hy => hy.elim (fun hy => .inl (hs k hk hy)) .inr, fun k hk hy => h3 k hk (hs k (h1.lt k hk).2 hy)⟩
theorem own_chg {S : List Nat} {base n : Nat} {e : TypeId} {size : Nat} {xs : List Value} (h : w.ownsRow base e size v n xs) (hc : Chg S w w') (hn : ∀ k, v.ownBlock = some k → k ∉ S) : w'.ownsRow base e size v n xs := by
 refine ⟨h.1, ?_⟩
 rcases h.2 with h2 | ⟨g, cap, cur, hv, hg, hh, r⟩
 ·exact .inl h2
 ·refine .inr ⟨g, cap, cur, hv, hg, ?_, r⟩
  exact Blk.chg (t := e) hh hc (hn g (by rw [hv]; rfl))
theorem Own.chg {S : List Nat} (h : Own T E w0 w X v l) (hc : Chg S w w') (hs : ∀ k, k ∈ S → k < w.heap.size → X k) : Own T E w0 w' X v l := by
 obtain ⟨css, h1, h2, h3⟩ := h
 refine ⟨css, own_chg h1 hc fun k hk hm => h3 k hk (hs k hm (h1.lt k hk).2), h2.chg hc fun k hk hl => .inl (hs k hk hl), h3⟩
theorem _root_.Go.World.grownBy.chg' {row : Option Nat} (h : w.grownBy w' row) : Chg row.toList w w' :=
 ⟨h.os, h.tape, h.output, h.size, fun k hk hn => h.block k hk (fun e => hn (by rw [← e]; simp))⟩
/-- append onto such a slice of a slice whose elements do not lie in it -/
theorem run_own {z : Value} {bytes : Nat} (ei : Elt T E z bytes) (t ty : TypeId) (ht : Tryz.prog.underlying t = some (.slice T)) (h : Own T E w0 w X v l) (hx0 : Ext w0 w)
  {y : Value} (hy : Enc.Sl E w (fun k => X k ∨ v.ownBlock = some k) y m) (hX : ¬ X w.heap.size) (hlen : (l.length + m.length) * bytes ≤ 140737488355328) (hl2 : l.length + m.length ≤ 140737488355328) :
  ∃ v' w', (Builtin.append_ #[t, t] ty #[v, y]).run Tryz.prog w = .ok v' w' ∧ Own T E w0 w' X v' (l ++ m) ∧ Ext w0 w' ∧ Chg v.ownBlock.toList w w' ∧ (v'.ownBlock = v.ownBlock ∨ v'.ownBlock = some w.heap.size) := by
 obtain ⟨css, h1, h2, h3⟩ := h
 obtain ⟨A, c, cs2, rfl, k1, k2, k3, k4, k5⟩ := hy
 obtain ⟨i0, hi, hz0, hz1, hz2⟩ := info_parts ei.info
 obtain ⟨v', w', hrun, hown, hg, hb⟩ := run_append_any (P := Tryz.prog) w w0.heap.size t ty T i0 z E.size bytes ht hi hz0 hz1 hz2 ei.zs ei.pos v l.length css.flatten h1 w.heap.size A m.length c cs2.flatten k3 k5.one (by simp [maxLen]; omega) hlen hx0.size
 have hc := hg.chg'
 refine ⟨v', w', hrun, ⟨css ++ cs2, by rw [List.length_append, List.flatten_append]; exact hown, ?_, ?_⟩, hx0.then_ hc (fun i hi => by simp at hi; exact (h1.lt i hi).1), hc, hb⟩
 ·have j1 := h2.mono (Y := fun k => (X k ∨ v'.ownBlock = some k) ∨ v.ownBlock = some k) fun k hk hy => by
   rcases hy with (hy | hy) | hy
   ·exact .inl hy
   ·rcases hb with e | e
    ·exact .inr (e.symm.trans hy)
    ·rw [e] at hy; have := Option.some.inj hy; omega
   ·exact .inr hy
  have j2 := k5.mono (Y := fun k => (X k ∨ v'.ownBlock = some k) ∨ v.ownBlock = some k) fun k hk hy => by
   rcases hy with (hy | hy) | hy
   ·exact .inl hy
   ·rcases hb with e | e
    ·exact .inr (e.symm.trans hy)
    ·rw [e] at hy; have := Option.some.inj hy; omega
   ·exact .inr hy
  have j3 := (j1.app j2).chg hc fun k hk _ => .inr (by simpa using hk)
  exact j3.mono fun k _ hk => .inl hk
 ·intro k hk hx
  rcases hb with e | e
  ·exact h3 k (e.symm.trans hk) hx
  ·rw [e] at hk; have := Option.some.inj hk; subst this; exact hX hx
/-- one element in a block of its own -/
theorem Sl.one (T : TypeId) {cs : List Value} {a : α} (h : E.rep w X cs a) (g : Nat) (hg : w.heap.size = g) (hX : ¬ X g) : Enc.Sl E (w.alloc (.cells cs.toArray T)) X (.slice (some ⟨g, 0, none⟩) 1 1) [a] := by
 subst hg
 refine ⟨_, 1, [cs], rfl, Nat.le_refl _, by simp [maxLen], ?_, fun ad he _ => ?_, Enc.Each.single (E.ext h ((Ext.rfl' w).alloc' _))⟩
 ·refine ⟨by simp [E.len h], fun _ => ⟨_, rfl, by simp, fun j u hu => ?_⟩⟩
  have hadd : (⟨w.heap.size, 0, none⟩ : Addr).add j = ⟨w.heap.size, j, none⟩ := by unfold Addr.add; split <;> simp_all
  rw [hadd, cell_of_row _ _ _ _ _ _ (heap_alloc_new w _)]
  simpa using hu
 ·rw [← Option.some.inj he]
  exact hX
/-- append of one element, as the walk meets it -/
theorem wpList_own {ops : Array Oper} {rest : List Oper} {o : Oper} {a : Act} {Q : Exit → Act → World → Prop} {z : Value} {bytes : Nat} (ei : Elt T E z bytes) (t : TypeId) (ht : Tryz.prog.underlying t = some (.slice T)) (hgd : o.guard = none) (s x : Operand)
  (ho : o.op = .call { callee := .builtin .append, args := #[s, x], argTypes := #[t, t] }) (h : Own T E w0 w X v l) (hs : a.eval s = v) (hx0 : Ext w0 w)
  {y : Value} (hx : a.eval x = y) (hy : Enc.Sl E w (fun k => X k ∨ v.ownBlock = some k) y m) (hX : ¬ X w.heap.size) (hlen : (l.length + m.length) * bytes ≤ 140737488355328) (hl2 : l.length + m.length ≤ 140737488355328)
  (hK : ∀ (k : List α) (A : Option Addr) (c : Nat) (w' : World), Hid (k = l ++ m) → Own T E w0 w' X (.slice A k.length c) k → Ext w0 w' → Chg v.ownBlock.toList w w' → wpList Tryz.prog ops Q rest (a.put o.dst (.slice A k.length c)) w') : wpList Tryz.prog ops Q (o :: rest) a w :=
 wpList_plain hgd fun _ hK' => by
  obtain ⟨v', w', hrun, h2, h3, h4, h5⟩ := run_own ei t o.type ht h hx0 hy hX hlen hl2
  obtain ⟨A, c, rfl, _, _⟩ := h2.form
  unfold Oper.wp execOp
  simp only [ho, resolve, invoke, builtin, Sem.run_bind, Sem.run_pure, Result.andThen_ok, List.map_toArray, List.map_cons, List.map_nil, hs, hx, hrun]
  exact hK' _ _ (hK (l ++ m) A c w' (hide rfl) h2 h3 h4)
/-- what was there ahead does not lie in a new slice -/
theorem Sl.apart {x : Value} {k : List α} (hx : Enc.Sl E w0 noneAt x k) (hx0 : Ext w0 w) (h : ∀ i, v.ownBlock = some i → w0.heap.size ≤ i) (hX : ∀ i, X i → w0.heap.size ≤ i) : Enc.Sl E w (fun k => X k ∨ v.ownBlock = some k) x k :=
 (hx.mono fun i hi hm => by
  rcases hm with hm | hm
  ·have := hX i hm; omega
  ·have := h i hm; omega).ext hx0
/-- an element that was there ahead does not lie in new blocks -/
theorem _root_.Go.Proofs.YtamimdlaclglkaaGreat.Enc.apart {cs : List Value} {a : α} (h : E.rep w noneAt cs a) (hX : ∀ i, X i → w.heap.size ≤ i) : E.rep w X cs a :=
 E.mono h fun i hi hm => by have := hX i hm; omega
end
theorem slN {α : Type} {E : Enc α} {w : World} {X : Avoid} {v : Value} {l : List α} (h : Enc.Sl E w X v l) : Enc.Sl E w noneAt v l := h.mono fun _ _ h => h.elim
theorem Own.base {α : Type} {T : TypeId} {E : Enc α} {w0 w w' : World} {X : Avoid} {v : Value} {l : List α} (h : Own T E w w' X v l) (hs : w0.heap.size ≤ w.heap.size) : Own T E w0 w' X v l := by
 obtain ⟨css, h1, h2, h3⟩ := h
 exact ⟨css, own_base h1 hs, h2, h3⟩
/-- a world without its blocks from n on -/
def cutW (W : World) (n : Nat) : World := { W with heap := W.heap.extract 0 n }
theorem cutW_size {W : World} {n : Nat} (h : n ≤ W.heap.size) : (cutW W n).heap.size = n := by simp [cutW]; omega
theorem cutW_at {W : World} {n k : Nat} (h : n ≤ W.heap.size) (hk : k < n) : (cutW W n).heap[k]? = W.heap[k]? := by
 simp only [cutW]
 rw [Array.getElem?_extract_of_lt (by omega)]
 simp
theorem cutW_ext {W : World} {n : Nat} (h : n ≤ W.heap.size) : Ext (cutW W n) W :=
 ⟨rfl, rfl, rfl, by rw [cutW_size h]; exact h, fun k hk => by rw [cutW_size h] at hk; exact (cutW_at h hk).symm⟩
theorem Blk.cutW {W : World} {n g : Nat} {T : TypeId} {cs : Array Value} (hB : Blk W g T cs) (h : n ≤ W.heap.size) (hg : g < n) : Blk (cutW W n) g T cs := (cutW_at h hg).trans hB
theorem Ext.cutW {w W : World} {n : Nat} (hx : Ext w W) (h : n ≤ W.heap.size) (hw : w.heap.size ≤ n) : Ext w (cutW W n) :=
 ⟨hx.os, hx.tape, hx.output, by rw [cutW_size h]; exact hw, fun k hk => (cutW_at h (by omega)).trans (hx.block k hk)⟩
end Go.Proofs.YtamimdlaclglkaaGreat
