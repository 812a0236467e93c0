import Derived.Test.YtamimdlaclglkaaPk2
import Derived.Deep.Slices
import Derived.Deep.Fields
import Derived.ChangeSame
import Derived.Test.YtamimdlaclglkaaPk1
/- What the cells of a value of a Go type say, in plain Lean: numbers, bools, texts, structs, slices of these, nested as they come. -/
namespace Go.Proofs.Ytamimdlaclglkaa
set_option linter.unusedVariables false
set_option linter.unusedSimpArgs false
set_option linter.unnecessarySimpa false
set_option maxRecDepth 100000
open Go.RowKit
/-- blocks in which nothing is read -/
abbrev Avoid := Nat → Prop
abbrev noneAt : Avoid := fun _ => False
structure Enc (α : Type) where
  size : Nat
  rep : World → Avoid → List Value → α → Prop
  len : ∀ {w X cs a}, rep w X cs a → cs.length = size
  one : ∀ {w X cs a}, rep w X cs a → ∀ u ∈ cs, u.oneCell' = true
  chg : ∀ {w w' X S cs a}, rep w X cs a → Chg S w w' → (∀ k, k ∈ S → k < w.heap.size → X k) → rep w' X cs a
  mono : ∀ {w X Y cs a}, rep w X cs a → (∀ k, k < w.heap.size → Y k → X k) → rep w Y cs a
namespace Enc
variable {α β : Type}
theorem ext (E : Enc α) {w w' : World} {X : Avoid} {cs : List Value} {a : α} (h : E.rep w X cs a) (hx : Ext w w') : E.rep w' X cs a := E.chg h (hx.chg []) (by simp)
def int (k : IntKind) (lo hi : Int) : Enc Int where
  size := 1
  rep _ _ cs n := cs = [.int k n] ∧ lo ≤ n ∧ n ≤ hi
  len h := by rw [h.1]; rfl
  one h := by rw [h.1]; intro u hu; simp at hu; subst hu; rfl
  chg h _ _ := h
  mono h _ := h
abbrev i64 : Enc Int := int .i64 (-9223372036854775808) 9223372036854775807
abbrev u64 : Enc Int := int .u64 0 18446744073709551615
abbrev u8 : Enc Int := int .u8 0 255
def bool : Enc Bool where
  size := 1
  rep _ _ cs b := cs = [.bool b]
  len h := by rw [h]; rfl
  one h := by rw [h]; intro u hu; simp at hu; subst hu; rfl
  chg h _ _ := h
  mono h _ := h
def text : Enc Bytes where
  size := 1
  rep _ _ cs l := cs = [str l] ∧ l.length ≤ maxLen
  len h := by rw [h.1]; rfl
  one h := by rw [h.1]; intro u hu; simp at hu; subst hu; rfl
  chg h _ _ := h
  mono h _ := h
/-- v is a slice whose bytes, read in w, are l, and they lie in no block of X -/
def BsX (w : World) (X : Avoid) (v : Value) (l : Bytes) : Prop := Bs w v l ∧ ∀ ad n c, v = .slice (some ad) n c → 0 < n → ¬ X ad.block
end Enc
theorem Bs.lt {w : World} {ad : Addr} {n c : Nat} {l : Bytes} (h : Bs w (.slice (some ad) n c) l) (h0 : 0 < n) : ad.block < w.heap.size := by
  obtain ⟨_, _, _, hr⟩ := h.inv
  obtain ⟨ad', he, hb, _⟩ := hr.2 h0
  rw [Option.some.inj he]; exact hb
namespace Enc
variable {α β : Type}
theorem BsX.chg {w w' : World} {X : Avoid} {S : List Nat} {v : Value} {l : Bytes} (h : BsX w X v l) (hc : Chg S w w') (hs : ∀ k, k ∈ S → k < w.heap.size → X k) : BsX w' X v l :=
  ⟨h.1.chg hc fun ad n c he h0 hm => h.2 ad n c he h0 (hs _ hm (by subst he; exact h.1.lt h0)), h.2⟩
theorem BsX.mono {w : World} {X Y : Avoid} {v : Value} {l : Bytes} (h : BsX w X v l) (hs : ∀ k, k < w.heap.size → Y k → X k) : BsX w Y v l :=
  ⟨h.1, fun ad n c he h0 hy => h.2 ad n c he h0 (hs _ (by subst he; exact h.1.lt h0) hy)⟩
theorem BsX.ext {w w' : World} {X : Avoid} {v : Value} {l : Bytes} (h : BsX w X v l) (hx : Ext w w') : BsX w' X v l := h.chg (hx.chg []) (by simp)
theorem BsX.of {w : World} {v : Value} {l : Bytes} (h : Bs w v l) : BsX w noneAt v l := ⟨h, fun _ _ _ _ _ h => h⟩
theorem BsX.off {w : World} {X : Avoid} {v : Value} {l : Bytes} (h : BsX w X v l) {S : List Nat} (hs : ∀ k, k ∈ S → X k) : Off v S := fun ad n c he h0 hm => h.2 ad n c he h0 (hs _ hm)
theorem BsX.nil (w : World) (X : Avoid) : BsX w X (.slice none 0 0) [] := ⟨Bs.nil w, fun _ _ _ he => by cases he⟩
theorem BsX.nw {w0 w : World} {X : Avoid} {v : Value} {l : Bytes} (h : Nw w0 w v l) (hX : ∀ k, X k → k < w0.heap.size) : BsX w X v l :=
  ⟨h.bs, fun ad n c he h0 hx => by have h1 := (h.lt ad.block (by rw [he]; rfl)).1; have h2 := hX _ hx; omega⟩
def byts : Enc Bytes where
  size := 1
  rep w X cs l := ∃ v, cs = [v] ∧ BsX w X v l
  len h := by obtain ⟨v, rfl, _⟩ := h; rfl
  one h := by
    obtain ⟨v, rfl, hb⟩ := h
    obtain ⟨A, c, rfl, _⟩ := hb.1
    intro u hu; simp at hu; subst hu; rfl
  chg h hc hs := by obtain ⟨v, rfl, hb⟩ := h; exact ⟨v, rfl, hb.chg hc hs⟩
  mono h hs := by obtain ⟨v, rfl, hb⟩ := h; exact ⟨v, rfl, hb.mono hs⟩
def unit : Enc Unit where
  size := 0
  rep _ _ cs _ := cs = []
  len h := by rw [h]; rfl
  one h := by rw [h]; intro u hu; cases hu
  chg h _ _ := h
  mono h _ := h
def pair (E : Enc α) (F : Enc β) : Enc (α × β) where
  size := E.size + F.size
  rep w X cs a := ∃ c1 c2, cs = c1 ++ c2 ∧ E.rep w X c1 a.1 ∧ F.rep w X c2 a.2
  len h := by obtain ⟨c1, c2, rfl, h1, h2⟩ := h; rw [List.length_append, E.len h1, F.len h2]
  one h := by
    obtain ⟨c1, c2, rfl, h1, h2⟩ := h
    intro u hu
    rcases List.mem_append.1 hu with h | h
    · exact E.one h1 u h
    · exact F.one h2 u h
  chg h hc hs := by obtain ⟨c1, c2, rfl, h1, h2⟩ := h; exact ⟨c1, c2, rfl, E.chg h1 hc hs, F.chg h2 hc hs⟩
  mono h hs := by obtain ⟨c1, c2, rfl, h1, h2⟩ := h; exact ⟨c1, c2, rfl, E.mono h1 hs, F.mono h2 hs⟩
def map (E : Enc β) (f : α → β) : Enc α where
  size := E.size
  rep w X cs a := E.rep w X cs (f a)
  len h := E.len h
  one h := E.one h
  chg h hc hs := E.chg h hc hs
  mono h hs := E.mono h hs
/-- side by side, each element's cells -/
def Each (E : Enc α) (w : World) (X : Avoid) (css : List (List Value)) (l : List α) : Prop :=
  css.length = l.length ∧ ∀ (k : Nat) cs a, css[k]? = some cs → l[k]? = some a → E.rep w X cs a
theorem Each.chg {E : Enc α} {w w' : World} {X : Avoid} {S : List Nat} {css : List (List Value)} {l : List α} (h : Each E w X css l) (hc : Chg S w w') (hs : ∀ k, k ∈ S → k < w.heap.size → X k) : Each E w' X css l :=
  ⟨h.1, fun k cs a h1 h2 => E.chg (h.2 k cs a h1 h2) hc hs⟩
theorem Each.ext {E : Enc α} {w w' : World} {X : Avoid} {css : List (List Value)} {l : List α} (h : Each E w X css l) (hx : Ext w w') : Each E w' X css l := h.chg (hx.chg []) (by simp)
theorem Each.mono {E : Enc α} {w : World} {X Y : Avoid} {css : List (List Value)} {l : List α} (h : Each E w X css l) (hs : ∀ k, k < w.heap.size → Y k → X k) : Each E w Y css l :=
  ⟨h.1, fun k cs a h1 h2 => E.mono (h.2 k cs a h1 h2) hs⟩
theorem Each.nil (E : Enc α) (w : World) (X : Avoid) : Each E w X [] [] := ⟨rfl, fun k cs a h => by simp at h⟩
theorem Each.app {E : Enc α} {w : World} {X : Avoid} {css css' : List (List Value)} {l l' : List α} (h : Each E w X css l) (h' : Each E w X css' l') : Each E w X (css ++ css') (l ++ l') := by
  refine ⟨by simp [h.1, h'.1], fun k cs a h1 h2 => ?_⟩
  by_cases hk : k < css.length
  · rw [List.getElem?_append_left hk] at h1
    rw [List.getElem?_append_left (by rw [← h.1]; exact hk)] at h2
    exact h.2 k cs a h1 h2
  · rw [List.getElem?_append_right (by omega)] at h1
    rw [List.getElem?_append_right (by rw [← h.1]; omega), ← h.1] at h2
    exact h'.2 _ cs a h1 h2
theorem Each.single {E : Enc α} {w : World} {X : Avoid} {cs : List Value} {a : α} (h : E.rep w X cs a) : Each E w X [cs] [a] :=
  ⟨rfl, fun k cs' a' h1 h2 => by rcases k with _ | k <;> simp at h1 h2; subst h1 h2; exact h⟩
theorem Each.take {E : Enc α} {w : World} {X : Avoid} {css : List (List Value)} {l : List α} (h : Each E w X css l) (n : Nat) : Each E w X (css.take n) (l.take n) := by
  refine ⟨by simp [h.1], fun k cs a h1 h2 => ?_⟩
  rw [List.getElem?_take] at h1 h2
  by_cases hk : k < n
  · rw [if_pos hk] at h1 h2; exact h.2 k cs a h1 h2
  · rw [if_neg hk] at h1; cases h1
theorem Each.drop {E : Enc α} {w : World} {X : Avoid} {css : List (List Value)} {l : List α} (h : Each E w X css l) (n : Nat) : Each E w X (css.drop n) (l.drop n) := by
  refine ⟨by simp [h.1], fun k cs a h1 h2 => ?_⟩
  rw [List.getElem?_drop] at h1 h2
  exact h.2 _ cs a h1 h2
theorem Each.len {E : Enc α} {w : World} {X : Avoid} : ∀ {css : List (List Value)} {l : List α}, Each E w X css l → css.flatten.length = l.length * E.size
  | [], l, h => by have : l = [] := List.eq_nil_of_length_eq_zero h.1.symm; subst this; simp
  | cs :: css, [], h => by cases h.1
  | cs :: css, a :: l, h => by
    have h1 := E.len (h.2 0 cs a rfl rfl)
    have h2 : Each E w X css l := ⟨by simpa using h.1, fun k c b hc hb => h.2 (k + 1) c b (by simpa using hc) (by simpa using hb)⟩
    rw [List.flatten_cons, List.length_append, h1, h2.len, List.length_cons, Nat.succ_mul]; omega
theorem Each.one {E : Enc α} {w : World} {X : Avoid} {css : List (List Value)} {l : List α} (h : Each E w X css l) : ∀ u ∈ css.flatten, u.oneCell' = true := by
  intro u hu
  obtain ⟨cs, hcs, hm⟩ := List.mem_flatten.1 hu
  obtain ⟨k, hk⟩ := List.mem_iff_getElem?.1 hcs
  have hkl : k < l.length := by rw [← h.1]; exact (List.getElem?_eq_some_iff.1 hk).1
  exact E.one (h.2 k cs l[k] hk (List.getElem?_eq_getElem hkl)) u hm
theorem flatten_at {s : Nat} : ∀ (css : List (List Value)) (k : Nat) (cs : List Value), (∀ c ∈ css, c.length = s) → css[k]? = some cs → ∀ j u, cs[j]? = some u → css.flatten[k * s + j]? = some u
  | [], k, cs, _, h => by simp at h
  | c :: css, 0, cs, hl, h => by
    intro j u hu
    simp at h; subst h
    have hj := (List.getElem?_eq_some_iff.1 hu).1
    rw [Nat.zero_mul, Nat.zero_add, List.flatten_cons, List.getElem?_append_left hj]
    exact hu
  | c :: css, k + 1, cs, hl, h => by
    intro j u hu
    have h1 := flatten_at css k cs (fun c hc => hl c (List.mem_cons_of_mem _ hc)) (by simpa using h) j u hu
    have hc := hl c List.mem_cons_self
    rw [List.flatten_cons, List.getElem?_append_right (by rw [hc, Nat.succ_mul]; omega), hc]
    have : (k + 1) * s + j - s = k * s + j := by rw [Nat.succ_mul]; omega
    rw [this]
    exact h1
theorem Each.lens {E : Enc α} {w : World} {X : Avoid} {css : List (List Value)} {l : List α} (h : Each E w X css l) : ∀ c ∈ css, c.length = E.size := by
  intro c hc
  obtain ⟨k, hk⟩ := List.mem_iff_getElem?.1 hc
  have hkl : k < l.length := by rw [← h.1]; exact (List.getElem?_eq_some_iff.1 hk).1
  exact E.len (h.2 k c l[k] hk (List.getElem?_eq_getElem hkl))
/-- v is a slice that reads as the list l -/
def Sl (E : Enc α) (w : World) (X : Avoid) (v : Value) (l : List α) : Prop :=
  ∃ A c css, v = .slice A l.length c ∧ l.length ≤ c ∧ c ≤ maxLen ∧ Reads w w.heap.size E.size A l.length css.flatten ∧ (∀ ad, A = some ad → 0 < l.length → ¬ X ad.block) ∧ Each E w X css l
theorem Sl.chg {E : Enc α} {w w' : World} {X : Avoid} {S : List Nat} {v : Value} {l : List α} (h : Sl E w X v l) (hc : Chg S w w') (hs : ∀ k, k ∈ S → k < w.heap.size → X k) : Sl E w' X v l := by
  obtain ⟨A, c, css, rfl, h1, h2, h3, h4, h5⟩ := h
  refine ⟨A, c, css, rfl, h1, h2, h3.chg hc (fun ad he h0 hm => h4 ad he h0 (hs _ hm ?_)), h4, h5.chg hc hs⟩
  obtain ⟨ad', he', hb, _⟩ := h3.2 h0
  rw [he] at he'
  rw [Option.some.inj he']; exact hb
theorem Sl.ext {E : Enc α} {w w' : World} {X : Avoid} {v : Value} {l : List α} (h : Sl E w X v l) (hx : Ext w w') : Sl E w' X v l := h.chg (hx.chg []) (by simp)
theorem Sl.mono {E : Enc α} {w : World} {X Y : Avoid} {v : Value} {l : List α} (h : Sl E w X v l) (hs : ∀ k, k < w.heap.size → Y k → X k) : Sl E w Y v l := by
  obtain ⟨A, c, css, rfl, h1, h2, h3, h4, h5⟩ := h
  refine ⟨A, c, css, rfl, h1, h2, h3, (fun ad he h0 hy => h4 ad he h0 (hs _ ?_ hy)), h5.mono hs⟩
  obtain ⟨ad', he', hb, _⟩ := h3.2 h0
  rw [he] at he'
  rw [Option.some.inj he']; exact hb
theorem Sl.nil (E : Enc α) (w : World) (X : Avoid) : Sl E w X (.slice none 0 0) [] :=
  ⟨none, 0, [], rfl, Nat.le_refl _, by simp [maxLen], ⟨by simp, fun h => by simp at h⟩, (fun _ he => by cases he), Each.nil E w X⟩
theorem Sl.inv {E : Enc α} {w : World} {X : Avoid} {A : Option Addr} {n c : Nat} {l : List α} (h : Sl E w X (.slice A n c) l) : n = l.length ∧ n ≤ c ∧ c ≤ maxLen := by
  obtain ⟨A', c', css, e, h1, h2, _⟩ := h
  simp only [Value.slice.injEq] at e
  obtain ⟨rfl, rfl, rfl⟩ := e
  exact ⟨rfl, h1, h2⟩
theorem Sl.form {E : Enc α} {w : World} {X : Avoid} {v : Value} {l : List α} (h : Sl E w X v l) : ∃ A c, v = .slice A l.length c ∧ l.length ≤ c ∧ c ≤ maxLen := by
  obtain ⟨A, c, css, rfl, h1, h2, _⟩ := h
  exact ⟨A, c, rfl, h1, h2⟩
/-- the k-th element: its cells, and where they lie -/
theorem Sl.at_ {E : Enc α} {w : World} {X : Avoid} {A : Option Addr} {n c : Nat} {l : List α} (h : Sl E w X (.slice A n c) l) {k : Nat} (hk : k < l.length) :
    ∃ ad cs, A = some ad ∧ E.rep w X cs l[k] ∧ ad.block < w.heap.size ∧ ∀ j u, cs[j]? = some u → w.cell? (ad.add (k * E.size + j)) = some u := by
  obtain ⟨A', c', css, e, h1, h2, h3, h4, h5⟩ := h
  simp only [Value.slice.injEq] at e
  obtain ⟨rfl, rfl, rfl⟩ := e
  have hkc : k < css.length := by rw [h5.1]; exact hk
  obtain ⟨ad, he, hb, hcell⟩ := h3.2 (show 0 < l.length by omega)
  exact ⟨ad, css[k], he, h5.2 k _ _ (List.getElem?_eq_getElem hkc) (List.getElem?_eq_getElem hk), hb, fun j u hu => hcell _ u (flatten_at css k css[k] h5.lens (List.getElem?_eq_getElem hkc) j u hu)⟩
theorem add_pos (a : Addr) (i : Nat) (h : 0 < i) : a.add i = ⟨a.block, a.off + i, none⟩ := by
  unfold Addr.add
  rw [if_neg (by omega)]
/-- the cells of an element, as a walk spells them -/
theorem cell0 {w : World} {ad : Addr} {m : Nat} {cs : List Value} (h : ∀ j u, cs[j]? = some u → w.cell? (ad.add (m + j)) = some u) {u : Value} (hu : cs[0]? = some u) : w.cell? (ad.add m) = some u := h 0 u hu
theorem cellS {w : World} {ad : Addr} {m : Nat} {cs : List Value} (h : ∀ j u, cs[j]? = some u → w.cell? (ad.add (m + j)) = some u) (j : Nat) {u : Value} (hu : cs[j + 1]? = some u) : w.cell? ⟨(ad.add m).block, (ad.add m).off + (j + 1), none⟩ = some u := by
  have h1 := h (j + 1) u hu
  rw [← add_of_add, add_pos _ (j + 1) (by omega)] at h1
  exact h1
/-- slices of such, as a type of elements -/
def slice (E : Enc α) : Enc (List α) where
  size := 1
  rep w X cs l := ∃ v, cs = [v] ∧ Sl E w X v l
  len h := by obtain ⟨v, rfl, _⟩ := h; rfl
  one h := by
    obtain ⟨v, rfl, hb⟩ := h
    obtain ⟨A, c, rfl, _⟩ := hb.form
    intro u hu; simp at hu; subst hu; rfl
  chg h hc hs := by obtain ⟨v, rfl, hb⟩ := h; exact ⟨v, rfl, hb.chg hc hs⟩
  mono h hs := by obtain ⟨v, rfl, hb⟩ := h; exact ⟨v, rfl, hb.mono hs⟩

/-! ### what a law is handed -/
section
open Go.ChangeShapes Go.WideShapes Go.ChangeAt
def Opens (t : TypeId) (E : Enc α) : Prop :=
  ∀ (H : Type) (enc : TypeId × Value → H) (w : World) (fuel : Nat) (cs : List Value) (x : DataW H × List MemPlace),
    DataW.trod enc Try.prog w 0 (fun _ => true) true fuel t cs = some x → ∃ a, E.rep w noneAt cs a
theorem opens_int {t : TypeId} {k : IntKind} {lo hi : Int} (ht : Try.prog.underlying t = some (.int k)) (hl : ∀ n, (Lit.int k n).wf = true → lo ≤ n ∧ n ≤ hi) : Opens t (int k lo hi) := by
  intro H enc w fuel cs x h
  obtain ⟨n, rfl, _, hw⟩ := DataW.trod_int ht h
  exact ⟨n, rfl, hl n hw⟩
theorem wf_i64 (n : Int) (h : (Lit.int .i64 n).wf = true) : -9223372036854775808 ≤ n ∧ n ≤ 9223372036854775807 := by
  simpa [Lit.wf, IntKind.min, IntKind.max, IntKind.bits, IntKind.signed] using h
theorem wf_u64 (n : Int) (h : (Lit.int .u64 n).wf = true) : 0 ≤ n ∧ n ≤ 18446744073709551615 := by
  simpa [Lit.wf, IntKind.min, IntKind.max, IntKind.bits, IntKind.signed] using h
theorem wf_u8 (n : Int) (h : (Lit.int .u8 n).wf = true) : 0 ≤ n ∧ n ≤ 255 := by
  simpa [Lit.wf, IntKind.min, IntKind.max, IntKind.bits, IntKind.signed] using h
theorem opens_bool {t : TypeId} (ht : Try.prog.underlying t = some .bool) : Opens t bool := by
  intro H enc w fuel cs x h
  obtain ⟨b, rfl, _⟩ := DataW.trod_bool ht h
  exact ⟨b, rfl⟩
theorem opens_text {t : TypeId} (ht : Try.prog.underlying t = some .string) : Opens t text := by
  intro H enc w fuel cs x h
  obtain ⟨s, rfl, _, hs⟩ := DataW.trod_string ht h
  have e : s.data.toList.length = s.size := by cases s; rfl
  exact ⟨s.data.toList, rfl, by omega⟩
theorem opens_bytes {t e : TypeId} (ht : Try.prog.underlying t = some (.slice e)) (he : Try.prog.underlying e = some (.int .u8)) (hc : Try.prog.cellsOf e = 1) : Opens t byts := by
  intro H enc w fuel cs x h
  rcases open_ints ht he hc h with ⟨rfl, _⟩ | ⟨x, l, c, zs, rfl, _, hl, hm, hz, _, hcell, hwz⟩
  · exact ⟨[], _, rfl, .of (Bs.nil w)⟩
  · obtain ⟨b, hb⟩ := bs_of_ints hl hm (by simpa using hz) hcell hwz
    exact ⟨b, _, rfl, .of hb⟩
theorem exists_list {β : Type} (P : Nat → β → Prop) : ∀ n : Nat, (∀ i, i < n → ∃ b, P i b) → ∃ l : List β, l.length = n ∧ ∀ i b, l[i]? = some b → P i b
  | 0, _ => ⟨[], rfl, fun i b h => by simp at h⟩
  | n + 1, h => by
    obtain ⟨l, hl, hp⟩ := exists_list P n fun i hi => h i (by omega)
    obtain ⟨b, hb⟩ := h n (by omega)
    refine ⟨l ++ [b], by simp [hl], fun i c hc => ?_⟩
    by_cases hi : i < l.length
    · rw [List.getElem?_append_left hi] at hc; exact hp i c hc
    · rw [List.getElem?_append_right (by omega)] at hc
      have hin : i = n := by
        rcases Nat.lt_or_ge (i - l.length) 1 with h1 | h1
        · omega
        · rw [List.getElem?_eq_none (by simpa using h1)] at hc; cases hc
      subst hin
      have : i - l.length = 0 := by omega
      rw [this] at hc
      simp at hc; subst hc; exact hb
theorem opens_slice {t e : TypeId} {E : Enc α} (ht : Try.prog.underlying t = some (.slice e)) (hc : Try.prog.cellsOf e = E.size) (hpos : 0 < E.size) (ho : Opens e E) : Opens t (slice E) := by
  intro H enc w fuel cs x h
  rcases Go.Deep.open_slice ht h with ⟨rfl, _⟩ | ⟨a, len, cap, m, n, D, Pl, rfl, _, hl, hm, hmm, _, hi⟩
  · exact ⟨[], _, rfl, Sl.nil E w _⟩
  · have hlm : len ≤ m := by rw [hmm]; split <;> omega
    obtain ⟨z, hz, hp⟩ := exists_list (fun i (b : List Value × α) => (∀ j, j < E.size → w.cell? ((a.add (i * E.size)).add j) = b.1[j]?) ∧ E.rep w noneAt b.1 b.2) len fun i hil => by
      obtain ⟨cs', h1, h2⟩ := hi i (by omega)
      obtain ⟨y, hy⟩ := ho H enc w n cs' _ h2
      rw [hc] at h1
      obtain ⟨_, _, h3⟩ := World.cells?_some h1
      exact ⟨(cs', y), h3, hy⟩
    have hE : Each E w noneAt (z.map (·.1)) (z.map (·.2)) := by
      refine ⟨by simp, fun k c b h1 h2 => ?_⟩
      rw [List.getElem?_map, Option.map_eq_some_iff] at h1 h2
      obtain ⟨q, h1, rfl⟩ := h1
      obtain ⟨q', h2, rfl⟩ := h2
      rw [h1] at h2
      obtain rfl := Option.some.inj h2
      exact (hp k q h1).2
    have hlen : (z.map (·.2)).length = len := by simp [hz]
    refine ⟨z.map (·.2), .slice (some a) len cap, rfl, some a, cap, z.map (·.1), by rw [hlen], by rw [hlen]; exact hl, hm, ?_, fun _ _ _ h => h, hE⟩
    refine ⟨hE.len, fun h0 => ⟨a, rfl, ?_, ?_⟩⟩
    · -- where there is an element, its first cell lies in memory
      obtain ⟨q, hq⟩ : ∃ q, z[0]? = some q := ⟨z[0]'(by rw [hz]; omega), List.getElem?_eq_getElem _⟩
      obtain ⟨h3, h4⟩ := hp 0 q hq
      have hl4 := E.len h4
      have h5 := h3 0 (by omega)
      rw [List.getElem?_eq_getElem (by omega)] at h5
      have := World.block_lt_of_cell? w _ h5
      rwa [block_of_add, block_of_add] at this
    · intro j u hu
      have hj : j < len * E.size := by
        have := (List.getElem?_eq_some_iff.1 hu).1
        rw [hE.len, hlen] at this
        exact this
      have hk : j / E.size < z.length := by rw [hz]; exact Nat.div_lt_of_lt_mul (by rw [Nat.mul_comm]; exact hj)
      have hq : z[j / E.size]? = some z[j / E.size] := List.getElem?_eq_getElem hk
      obtain ⟨h3, h4⟩ := hp _ _ hq
      have hr : j % E.size < E.size := Nat.mod_lt _ hpos
      have hjj : j / E.size * E.size + j % E.size = j := by rw [Nat.mul_comm]; exact Nat.div_add_mod j E.size
      have hl4 := E.len h4
      have hin : z[j / E.size].1[j % E.size]? = some (z[j / E.size].1[j % E.size]'(by omega)) := List.getElem?_eq_getElem _
      have h6 := flatten_at (z.map (·.1)) (j / E.size) z[j / E.size].1 hE.lens (by rw [List.getElem?_map, hq]; rfl) (j % E.size) _ hin
      rw [hjj] at h6
      rw [h6] at hu
      obtain rfl := Option.some.inj hu
      have h7 := h3 _ hr
      rw [add_of_add, hjj, hin] at h7
      exact h7
/-- the fields of a struct, from a place on -/
inductive Fields : List Field → Nat → (α : Type) → Enc α → Prop
  | nil (o : Nat) : Fields [] o Unit unit
  | cons {f : Field} {fs : List Field} {o : Nat} {α β : Type} {E : Enc α} {F : Enc β} (ho : f.offset = o) (hs : Try.prog.cellsOf f.type = E.size) (hE : Opens f.type E) (h : Fields fs (o + E.size) β F) : Fields (f :: fs) o (α × β) (pair E F)
theorem Fields.get {H : Type} {enc : TypeId × Value → H} {w : World} {n : Nat} {cs : List Value} {fs : List Field} {o : Nat} {α : Type} {E : Enc α} (hF : Fields fs o α E) (hl : cs.length = o + E.size)
    (h : ∀ f ∈ fs, ∃ y, DataW.trod enc Try.prog w 0 (fun _ => true) true n f.type ((cs.drop f.offset).take (Try.prog.cellsOf f.type)) = some y) : ∃ a, E.rep w noneAt (cs.drop o) a := by
  induction hF with
  | nil o => exact ⟨(), List.drop_eq_nil_of_le (by rw [hl]; exact Nat.le_refl _)⟩
  | @cons f fs o α β E F ho hs hE hF ih =>
    obtain ⟨y, hy⟩ := h f List.mem_cons_self
    rw [ho, hs] at hy
    obtain ⟨a, ha⟩ := hE H enc w n _ y hy
    obtain ⟨b, hb⟩ := ih (by rw [hl]; show o + (E.size + F.size) = _; omega) fun g hg => h g (List.mem_cons_of_mem _ hg)
    refine ⟨(a, b), (cs.drop o).take E.size, cs.drop (o + E.size), ?_, ha, hb⟩
    rw [← List.drop_drop, List.take_append_drop]
theorem opens_struct {t : TypeId} {fs : Array Field} {α : Type} {E : Enc α} (ht : Try.prog.underlying t = some (.struct fs)) (hc : Try.prog.cellsOf t = E.size) (hF : Fields fs.toList 0 α E) : Opens t E := by
  intro H enc w fuel cs x h
  obtain ⟨xs, n, _, _, hl, hlen, hf⟩ := DataW.trod_struct ht h
  have := Fields.get (enc := enc) (w := w) (n := n) (cs := cs) hF (by rw [hl, hc]; omega) fun f hfm => by
    obtain ⟨i, hi⟩ := List.mem_iff_getElem?.1 hfm
    have hi' : fs[i]? = some f := by simpa using hi
    have h1 := hf i f hi'
    have hil : i < xs.length := by rw [hlen]; exact (Array.getElem?_eq_some_iff.1 hi').1
    rw [List.getElem?_eq_getElem hil] at h1
    exact ⟨_, h1⟩
  simpa using this
theorem Opens.map {t : TypeId} {α β : Type} {E : Enc β} (h : Opens t E) (f : α → β) (hf : ∀ b, ∃ a, f a = b) : Opens t (map E f) := by
  intro H enc w fuel cs x hx
  obtain ⟨b, hb⟩ := h H enc w fuel cs x hx
  obtain ⟨a, rfl⟩ := hf b
  exact ⟨a, hb⟩
/-- an array -/
def rep_array (E : Enc α) (w : World) (X : Avoid) (cs : List Value) (l : List α) : Prop := ∃ css, cs = css.flatten ∧ Each E w X css l
end
end Enc
end Go.Proofs.Ytamimdlaclglkaa

/- Words for strings: side by side, cut. -/
namespace Go.Proofs.Ytamimdlaclglkaa
set_option linter.unusedVariables false
set_option linter.unusedSimpArgs false
set_option linter.unnecessarySimpa false
set_option maxRecDepth 100000
open Go.RowKit
theorem run_cat (x y : Bytes) (h : (x.length : Int) + y.length ≤ 9223372036854775807) : ∀ W : World, (Op.stringOp .add ⟨x.toArray⟩ ⟨y.toArray⟩).run Try.prog W = .ok (str (x ++ y)) W := by
  intro W
  rw [run_string_add_sum W _ _ (by simp [ByteArray.size]; omega), ByteArray.mk_append_mk]
theorem extract_take (x : Bytes) (n : Nat) : (ByteArray.mk x.toArray).extract 0 n = ⟨(x.take n).toArray⟩ := by
  apply ByteArray.ext
  simp [ByteArray.data_extract]
theorem run_front (x : Bytes) (n : Nat) (k : Int) (hk : k = n) (h : n ≤ x.length) : ∀ W : World, (Instr.sliceAt 9 (str x) none (some (.int .i64 k)) none).run Try.prog W = .ok (str (x.take n)) W := by
  intro W
  subst hk
  rw [run_sliceAt_string (h := Try.underlying9), run_slice_string_h (ht := Try.underlying9) (h0 := by omega) (h2 := by simp [ByteArray.size]; omega), Int.toNat_natCast, extract_take]
end Go.Proofs.Ytamimdlaclglkaa

/- The sum of bytes, as plain numbers: no program in sight. -/
namespace Go.Proofs.Ytamimdlaclglkaa.Crc
set_option linter.unusedVariables false
set_option linter.unusedSimpArgs false
set_option linter.unnecessarySimpa false
set_option maxRecDepth 100000
/-- one bit of a sum taken in -/
def step (c : Nat) : Nat := c / 2 ^^^ (if c % 2 = 1 then 3988292384 else 0)
def steps : Nat → Nat → Nat
  | 0, c => c
  | n + 1, c => steps n (step c)
theorem steps_succ (n c : Nat) : steps (n + 1) c = step (steps n c) := by
  induction n generalizing c with
  | zero => rfl
  | succ n ih => rw [steps, ih]; rfl
def tab (i : Nat) : Nat := steps 8 i
/-- one byte taken in -/
def byte (c : Nat) (x : UInt8) : Nat := tab (c % 256 ^^^ x.toNat) ^^^ c / 256
def from_ (c : Nat) (l : List UInt8) : Nat := l.foldl byte c
def sum (l : List UInt8) : Nat := 4294967295 - from_ 4294967295 l
theorem div2_xor (a b : Nat) : (a ^^^ b) / 2 = a / 2 ^^^ b / 2 := by
  have := @Nat.shiftRight_xor_distrib 1 a b
  simpa [Nat.shiftRight_eq_div_pow] using this
theorem mod2_xor (a b : Nat) : (a ^^^ b) % 2 = 1 ↔ ¬ (a % 2 = 1 ↔ b % 2 = 1) := by
  have h := Nat.testBit_xor (x := a) (y := b) (i := 0)
  simp only [Nat.testBit_zero] at h
  have h2 : decide ((a ^^^ b) % 2 = 1) = true ↔ ((decide (a % 2 = 1)) ^^ (decide (b % 2 = 1))) = true := by rw [h]
  simp only [decide_eq_true_eq] at h2
  rw [h2]
  by_cases ha : a % 2 = 1 <;> by_cases hb : b % 2 = 1 <;> simp [ha, hb]
theorem step_xor (a b : Nat) : step (a ^^^ b) = step a ^^^ step b := by
  unfold step
  rw [div2_xor]
  have h := mod2_xor a b
  by_cases ha : a % 2 = 1 <;> by_cases hb : b % 2 = 1
  · rw [if_neg (by rw [h]; simp [ha, hb]), if_pos ha, if_pos hb]
    simp only [Nat.xor_zero]
    rw [Nat.xor_assoc, Nat.xor_comm 3988292384, Nat.xor_assoc, Nat.xor_self, Nat.xor_zero]
  · rw [if_pos (by rw [h]; simp [ha, hb]), if_pos ha, if_neg hb, Nat.xor_zero, Nat.xor_assoc, Nat.xor_assoc, Nat.xor_comm 3988292384]
  · rw [if_pos (by rw [h]; simp [ha, hb]), if_neg ha, if_pos hb, Nat.xor_zero, Nat.xor_assoc]
  · rw [if_neg (by rw [h]; simp [ha, hb]), if_neg ha, if_neg hb]
    simp
theorem steps_xor (n a b : Nat) : steps n (a ^^^ b) = steps n a ^^^ steps n b := by
  induction n generalizing a b with
  | zero => rfl
  | succ n ih => rw [steps, step_xor, ih]; rfl
theorem step_two (c : Nat) : step (2 * c) = c := by
  unfold step
  rw [if_neg (by omega)]
  simp
theorem steps_pow (n c : Nat) : steps n (2 ^ n * c) = c := by
  induction n generalizing c with
  | zero => simp [steps]
  | succ n ih => rw [steps, show 2 ^ (n + 1) * c = 2 * (2 ^ n * c) by rw [Nat.pow_succ]; simp [Nat.mul_comm, Nat.mul_left_comm], step_two, ih]
theorem split256 (c : Nat) : c = (c % 256) ^^^ (256 * (c / 256)) := by
  have h := Nat.two_pow_add_eq_or_of_lt (i := 8) (b := c % 256) (by omega) (c / 256)
  have h2 : 256 * (c / 256) + c % 256 = c := by omega
  simp only [Nat.reducePow] at h
  apply Nat.eq_of_testBit_eq
  intro i
  rw [Nat.testBit_xor]
  have e : (256 : Nat) = 2 ^ 8 := rfl
  rw [e, Nat.testBit_mod_two_pow, Nat.testBit_two_pow_mul, Nat.testBit_div_two_pow]
  by_cases hi : i < 8
  · simp [hi, show ¬ i ≥ 8 by omega]
  · simp [hi, show i ≥ 8 by omega, show i - 8 + 8 = i by omega]
/-- eight bits at once are one look into the table -/
theorem steps_byte (c : Nat) (x : UInt8) : steps 8 (c ^^^ x.toNat) = byte c x := by
  have h := split256 c
  have e : c ^^^ x.toNat = (c % 256 ^^^ x.toNat) ^^^ (2 ^ 8 * (c / 256)) := by
    conv => lhs; rw [h]
    rw [Nat.xor_assoc, Nat.xor_comm (256 * (c / 256)), Nat.xor_assoc]
  rw [e, steps_xor, steps_pow]
  rfl
theorem step_lt (c : Nat) (h : c < 4294967296) : step c < 4294967296 := by
  unfold step
  exact Nat.xor_lt_two_pow (n := 32) (by omega) (by split <;> omega)
theorem steps_lt (n c : Nat) (h : c < 4294967296) : steps n c < 4294967296 := by
  induction n generalizing c with
  | zero => exact h
  | succ n ih => exact ih _ (step_lt c h)
theorem byte_lt (c : Nat) (x : UInt8) (h : c < 4294967296) : byte c x < 4294967296 := by
  rw [← steps_byte]
  have := x.toNat_lt
  exact steps_lt _ _ (Nat.xor_lt_two_pow (n := 32) h (by omega))
theorem from_lt (l : List UInt8) (c : Nat) (h : c < 4294967296) : from_ c l < 4294967296 := by
  induction l generalizing c with
  | nil => exact h
  | cons x l ih => exact ih _ (byte_lt c x h)
theorem sum_lt (l : List UInt8) : sum l < 4294967296 := by unfold sum; omega
theorem from_append (l m : List UInt8) (c : Nat) : from_ c (l ++ m) = from_ (from_ c l) m := by simp [from_, List.foldl_append]
theorem step_inj (a b : Nat) (ha : a < 4294967296) (hb : b < 4294967296) (h : step a = step b) : a = b := by
  have h0 : step (a ^^^ b) = 0 := by rw [step_xor, h, Nat.xor_self]
  have hlt : a ^^^ b < 4294967296 := Nat.xor_lt_two_pow (n := 32) ha hb
  have hz : a ^^^ b = 0 := by
    generalize a ^^^ b = d at *
    unfold step at h0
    by_cases hd : d % 2 = 1
    · rw [if_pos hd] at h0
      have h1 : d / 2 = 3988292384 := by
        have := congrArg (· ^^^ 3988292384) h0
        simp only [Nat.xor_assoc, Nat.xor_self, Nat.xor_zero, Nat.zero_xor] at this
        exact this
      omega
    · rw [if_neg hd] at h0
      simp at h0
      omega
  have := congrArg (· ^^^ b) hz
  simpa [Nat.xor_assoc] using this
theorem steps_inj (n a b : Nat) (ha : a < 4294967296) (hb : b < 4294967296) (h : steps n a = steps n b) : a = b := by
  induction n generalizing a b with
  | zero => exact h
  | succ n ih => exact step_inj a b ha hb (ih _ _ (step_lt a ha) (step_lt b hb) h)
theorem xor_left_inj (a b c : Nat) (h : a ^^^ c = b ^^^ c) : a = b := by
  have := congrArg (· ^^^ c) h
  simpa [Nat.xor_assoc] using this
theorem xor_right_inj (a b c : Nat) (h : c ^^^ a = c ^^^ b) : a = b := by
  rw [Nat.xor_comm c, Nat.xor_comm c] at h
  exact xor_left_inj a b c h
theorem byte_inj (a b : Nat) (x : UInt8) (ha : a < 4294967296) (hb : b < 4294967296) (h : byte a x = byte b x) : a = b := by
  rw [← steps_byte, ← steps_byte] at h
  have hx := x.toNat_lt
  exact xor_left_inj _ _ _ (steps_inj 8 _ _ (Nat.xor_lt_two_pow (n := 32) ha (by omega)) (Nat.xor_lt_two_pow (n := 32) hb (by omega)) h)
theorem byte_inj2 (a : Nat) (x y : UInt8) (ha : a < 4294967296) (h : byte a x = byte a y) : x = y := by
  rw [← steps_byte, ← steps_byte] at h
  have hx := x.toNat_lt
  have hy := y.toNat_lt
  have := xor_right_inj _ _ _ (steps_inj 8 _ _ (Nat.xor_lt_two_pow (n := 32) ha (by omega)) (Nat.xor_lt_two_pow (n := 32) ha (by omega)) h)
  exact UInt8.toNat_inj.1 this
theorem from_inj (l : List UInt8) (a b : Nat) (ha : a < 4294967296) (hb : b < 4294967296) (h : from_ a l = from_ b l) : a = b := by
  induction l generalizing a b with
  | nil => exact h
  | cons x l ih => exact byte_inj a b x ha hb (ih _ _ (byte_lt a x ha) (byte_lt b x hb) h)
/-- Bytes that part in one byte alone have other sums. -/
theorem sum_one (p q : List UInt8) (x y : UInt8) (h : sum (p ++ x :: q) = sum (p ++ y :: q)) : x = y := by
  have h1 := from_lt (p ++ x :: q) 4294967295 (by omega)
  have h2 := from_lt (p ++ y :: q) 4294967295 (by omega)
  have h3 : from_ 4294967295 (p ++ x :: q) = from_ 4294967295 (p ++ y :: q) := by unfold sum at h; omega
  rw [from_append, from_append] at h3
  have hp := from_lt p 4294967295 (by omega)
  exact byte_inj2 _ x y hp (from_inj q _ _ (byte_lt _ x hp) (byte_lt _ y hp) h3)
end Go.Proofs.Ytamimdlaclglkaa.Crc

