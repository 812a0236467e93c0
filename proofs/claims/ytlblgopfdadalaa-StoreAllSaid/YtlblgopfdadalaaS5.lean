/- A part of the proof of 'StoreAll'. -/
import Derived.Test.YtlblgopfdadalaaS4
import Derived.Deep.Slices
import Derived.Deep.Fields
import Derived.ChangeSame
import Derived.Test.YtlblgopfdadalaaS1
namespace Go.Proofs.Ytlblgopfdadalaa
set_option linter.unusedVariables false
set_option linter.unusedSimpArgs false
set_option linter.unnecessarySimpa false
set_option maxRecDepth 100000
open Go.RowKit
/-- blocks in which nothing is read -/
abbrev Avoid := Nat → Prop
abbrev noneAt : Avoid := fun _ => False
structure Enc (α : Type) where
  size : Nat
  rep : World → Avoid → List Value → α → Prop
  len : ∀ {w X cs a}, rep w X cs a → cs.length = size
  one : ∀ {w X cs a}, rep w X cs a → ∀ u ∈ cs, u.oneCell' = true
  chg : ∀ {w w' X S cs a}, rep w X cs a → Chg S w w' → (∀ k, k ∈ S → k < w.heap.size → X k) → rep w' X cs a
  mono : ∀ {w X Y cs a}, rep w X cs a → (∀ k, k < w.heap.size → Y k → X k) → rep w Y cs a
namespace Enc
variable {α β : Type}
theorem ext (E : Enc α) {w w' : World} {X : Avoid} {cs : List Value} {a : α} (h : E.rep w X cs a) (hx : Ext w w') : E.rep w' X cs a := E.chg h (hx.chg []) (by simp)
def int (k : IntKind) (lo hi : Int) : Enc Int where
  size := 1
  rep _ _ cs n := cs = [.int k n] ∧ lo ≤ n ∧ n ≤ hi
  len h := by rw [h.1]; rfl
  one h := by rw [h.1]; intro u hu; simp at hu; subst hu; rfl
  chg h _ _ := h
  mono h _ := h
abbrev i64 : Enc Int := int .i64 (-9223372036854775808) 9223372036854775807
abbrev u64 : Enc Int := int .u64 0 18446744073709551615
abbrev u8 : Enc Int := int .u8 0 255
def bool : Enc Bool where
  size := 1
  rep _ _ cs b := cs = [.bool b]
  len h := by rw [h]; rfl
  one h := by rw [h]; intro u hu; simp at hu; subst hu; rfl
  chg h _ _ := h
  mono h _ := h
def text : Enc Bytes where
  size := 1
  rep _ _ cs l := cs = [str l] ∧ l.length ≤ maxLen
  len h := by rw [h.1]; rfl
  one h := by rw [h.1]; intro u hu; simp at hu; subst hu; rfl
  chg h _ _ := h
  mono h _ := h
/-- v is a slice whose bytes, read in w, are l, and they lie in no block of X -/
def BsX (w : World) (X : Avoid) (v : Value) (l : Bytes) : Prop := Bs w v l ∧ ∀ ad n c, v = .slice (some ad) n c → 0 < n → ¬ X ad.block
end Enc
theorem Bs.lt {w : World} {ad : Addr} {n c : Nat} {l : Bytes} (h : Bs w (.slice (some ad) n c) l) (h0 : 0 < n) : ad.block < w.heap.size := by
  obtain ⟨_, _, _, hr⟩ := h.inv
  obtain ⟨ad', he, hb, _⟩ := hr.2 h0
  rw [Option.some.inj he]; exact hb
namespace Enc
variable {α β : Type}
theorem BsX.chg {w w' : World} {X : Avoid} {S : List Nat} {v : Value} {l : Bytes} (h : BsX w X v l) (hc : Chg S w w') (hs : ∀ k, k ∈ S → k < w.heap.size → X k) : BsX w' X v l :=
  ⟨h.1.chg hc fun ad n c he h0 hm => h.2 ad n c he h0 (hs _ hm (by subst he; exact h.1.lt h0)), h.2⟩
theorem BsX.mono {w : World} {X Y : Avoid} {v : Value} {l : Bytes} (h : BsX w X v l) (hs : ∀ k, k < w.heap.size → Y k → X k) : BsX w Y v l :=
  ⟨h.1, fun ad n c he h0 hy => h.2 ad n c he h0 (hs _ (by subst he; exact h.1.lt h0) hy)⟩
theorem BsX.ext {w w' : World} {X : Avoid} {v : Value} {l : Bytes} (h : BsX w X v l) (hx : Ext w w') : BsX w' X v l := h.chg (hx.chg []) (by simp)
theorem BsX.of {w : World} {v : Value} {l : Bytes} (h : Bs w v l) : BsX w noneAt v l := ⟨h, fun _ _ _ _ _ h => h⟩
theorem BsX.off {w : World} {X : Avoid} {v : Value} {l : Bytes} (h : BsX w X v l) {S : List Nat} (hs : ∀ k, k ∈ S → X k) : Off v S := fun ad n c he h0 hm => h.2 ad n c he h0 (hs _ hm)
theorem BsX.nil (w : World) (X : Avoid) : BsX w X (.slice none 0 0) [] := ⟨Bs.nil w, fun _ _ _ he => by cases he⟩
theorem BsX.nw {w0 w : World} {X : Avoid} {v : Value} {l : Bytes} (h : Nw w0 w v l) (hX : ∀ k, X k → k < w0.heap.size) : BsX w X v l :=
  ⟨h.bs, fun ad n c he h0 hx => by have h1 := (h.lt ad.block (by rw [he]; rfl)).1; have h2 := hX _ hx; omega⟩
def byts : Enc Bytes where
  size := 1
  rep w X cs l := ∃ v, cs = [v] ∧ BsX w X v l
  len h := by obtain ⟨v, rfl, _⟩ := h; rfl
  one h := by
    obtain ⟨v, rfl, hb⟩ := h
    obtain ⟨A, c, rfl, _⟩ := hb.1
    intro u hu; simp at hu; subst hu; rfl
  chg h hc hs := by obtain ⟨v, rfl, hb⟩ := h; exact ⟨v, rfl, hb.chg hc hs⟩
  mono h hs := by obtain ⟨v, rfl, hb⟩ := h; exact ⟨v, rfl, hb.mono hs⟩
def unit : Enc Unit where
  size := 0
  rep _ _ cs _ := cs = []
  len h := by rw [h]; rfl
  one h := by rw [h]; intro u hu; cases hu
  chg h _ _ := h
  mono h _ := h
def pair (E : Enc α) (F : Enc β) : Enc (α × β) where
  size := E.size + F.size
  rep w X cs a := ∃ c1 c2, cs = c1 ++ c2 ∧ E.rep w X c1 a.1 ∧ F.rep w X c2 a.2
  len h := by obtain ⟨c1, c2, rfl, h1, h2⟩ := h; rw [List.length_append, E.len h1, F.len h2]
  one h := by
    obtain ⟨c1, c2, rfl, h1, h2⟩ := h
    intro u hu
    rcases List.mem_append.1 hu with h | h
    · exact E.one h1 u h
    · exact F.one h2 u h
  chg h hc hs := by obtain ⟨c1, c2, rfl, h1, h2⟩ := h; exact ⟨c1, c2, rfl, E.chg h1 hc hs, F.chg h2 hc hs⟩
  mono h hs := by obtain ⟨c1, c2, rfl, h1, h2⟩ := h; exact ⟨c1, c2, rfl, E.mono h1 hs, F.mono h2 hs⟩
def map (E : Enc β) (f : α → β) : Enc α where
  size := E.size
  rep w X cs a := E.rep w X cs (f a)
  len h := E.len h
  one h := E.one h
  chg h hc hs := E.chg h hc hs
  mono h hs := E.mono h hs
/-- side by side, each element's cells -/
def Each (E : Enc α) (w : World) (X : Avoid) (css : List (List Value)) (l : List α) : Prop :=
  css.length = l.length ∧ ∀ (k : Nat) cs a, css[k]? = some cs → l[k]? = some a → E.rep w X cs a
theorem Each.chg {E : Enc α} {w w' : World} {X : Avoid} {S : List Nat} {css : List (List Value)} {l : List α} (h : Each E w X css l) (hc : Chg S w w') (hs : ∀ k, k ∈ S → k < w.heap.size → X k) : Each E w' X css l :=
  ⟨h.1, fun k cs a h1 h2 => E.chg (h.2 k cs a h1 h2) hc hs⟩
theorem Each.ext {E : Enc α} {w w' : World} {X : Avoid} {css : List (List Value)} {l : List α} (h : Each E w X css l) (hx : Ext w w') : Each E w' X css l := h.chg (hx.chg []) (by simp)
theorem Each.mono {E : Enc α} {w : World} {X Y : Avoid} {css : List (List Value)} {l : List α} (h : Each E w X css l) (hs : ∀ k, k < w.heap.size → Y k → X k) : Each E w Y css l :=
  ⟨h.1, fun k cs a h1 h2 => E.mono (h.2 k cs a h1 h2) hs⟩
theorem Each.nil (E : Enc α) (w : World) (X : Avoid) : Each E w X [] [] := ⟨rfl, fun k cs a h => by simp at h⟩
theorem Each.app {E : Enc α} {w : World} {X : Avoid} {css css' : List (List Value)} {l l' : List α} (h : Each E w X css l) (h' : Each E w X css' l') : Each E w X (css ++ css') (l ++ l') := by
  refine ⟨by simp [h.1, h'.1], fun k cs a h1 h2 => ?_⟩
  by_cases hk : k < css.length
  · rw [List.getElem?_append_left hk] at h1
    rw [List.getElem?_append_left (by rw [← h.1]; exact hk)] at h2
    exact h.2 k cs a h1 h2
  · rw [List.getElem?_append_right (by omega)] at h1
    rw [List.getElem?_append_right (by rw [← h.1]; omega), ← h.1] at h2
    exact h'.2 _ cs a h1 h2
theorem Each.single {E : Enc α} {w : World} {X : Avoid} {cs : List Value} {a : α} (h : E.rep w X cs a) : Each E w X [cs] [a] :=
  ⟨rfl, fun k cs' a' h1 h2 => by rcases k with _ | k <;> simp at h1 h2; subst h1 h2; exact h⟩
theorem Each.take {E : Enc α} {w : World} {X : Avoid} {css : List (List Value)} {l : List α} (h : Each E w X css l) (n : Nat) : Each E w X (css.take n) (l.take n) := by
  refine ⟨by simp [h.1], fun k cs a h1 h2 => ?_⟩
  rw [List.getElem?_take] at h1 h2
  by_cases hk : k < n
  · rw [if_pos hk] at h1 h2; exact h.2 k cs a h1 h2
  · rw [if_neg hk] at h1; cases h1
theorem Each.drop {E : Enc α} {w : World} {X : Avoid} {css : List (List Value)} {l : List α} (h : Each E w X css l) (n : Nat) : Each E w X (css.drop n) (l.drop n) := by
  refine ⟨by simp [h.1], fun k cs a h1 h2 => ?_⟩
  rw [List.getElem?_drop] at h1 h2
  exact h.2 _ cs a h1 h2
theorem Each.len {E : Enc α} {w : World} {X : Avoid} : ∀ {css : List (List Value)} {l : List α}, Each E w X css l → css.flatten.length = l.length * E.size
  | [], l, h => by have : l = [] := List.eq_nil_of_length_eq_zero h.1.symm; subst this; simp
  | cs :: css, [], h => by cases h.1
  | cs :: css, a :: l, h => by
    have h1 := E.len (h.2 0 cs a rfl rfl)
    have h2 : Each E w X css l := ⟨by simpa using h.1, fun k c b hc hb => h.2 (k + 1) c b (by simpa using hc) (by simpa using hb)⟩
    rw [List.flatten_cons, List.length_append, h1, h2.len, List.length_cons, Nat.succ_mul]; omega
theorem Each.one {E : Enc α} {w : World} {X : Avoid} {css : List (List Value)} {l : List α} (h : Each E w X css l) : ∀ u ∈ css.flatten, u.oneCell' = true := by
  intro u hu
  obtain ⟨cs, hcs, hm⟩ := List.mem_flatten.1 hu
  obtain ⟨k, hk⟩ := List.mem_iff_getElem?.1 hcs
  have hkl : k < l.length := by rw [← h.1]; exact (List.getElem?_eq_some_iff.1 hk).1
  exact E.one (h.2 k cs l[k] hk (List.getElem?_eq_getElem hkl)) u hm
theorem flatten_at {s : Nat} : ∀ (css : List (List Value)) (k : Nat) (cs : List Value), (∀ c ∈ css, c.length = s) → css[k]? = some cs → ∀ j u, cs[j]? = some u → css.flatten[k * s + j]? = some u
  | [], k, cs, _, h => by simp at h
  | c :: css, 0, cs, hl, h => by
    intro j u hu
    simp at h; subst h
    have hj := (List.getElem?_eq_some_iff.1 hu).1
    rw [Nat.zero_mul, Nat.zero_add, List.flatten_cons, List.getElem?_append_left hj]
    exact hu
  | c :: css, k + 1, cs, hl, h => by
    intro j u hu
    have h1 := flatten_at css k cs (fun c hc => hl c (List.mem_cons_of_mem _ hc)) (by simpa using h) j u hu
    have hc := hl c List.mem_cons_self
    rw [List.flatten_cons, List.getElem?_append_right (by rw [hc, Nat.succ_mul]; omega), hc]
    have : (k + 1) * s + j - s = k * s + j := by rw [Nat.succ_mul]; omega
    rw [this]
    exact h1
theorem Each.lens {E : Enc α} {w : World} {X : Avoid} {css : List (List Value)} {l : List α} (h : Each E w X css l) : ∀ c ∈ css, c.length = E.size := by
  intro c hc
  obtain ⟨k, hk⟩ := List.mem_iff_getElem?.1 hc
  have hkl : k < l.length := by rw [← h.1]; exact (List.getElem?_eq_some_iff.1 hk).1
  exact E.len (h.2 k c l[k] hk (List.getElem?_eq_getElem hkl))
/-- v is a slice that reads as the list l -/
def Sl (E : Enc α) (w : World) (X : Avoid) (v : Value) (l : List α) : Prop :=
  ∃ A c css, v = .slice A l.length c ∧ l.length ≤ c ∧ c ≤ maxLen ∧ Reads w w.heap.size E.size A l.length css.flatten ∧ (∀ ad, A = some ad → 0 < l.length → ¬ X ad.block) ∧ Each E w X css l
theorem Sl.chg {E : Enc α} {w w' : World} {X : Avoid} {S : List Nat} {v : Value} {l : List α} (h : Sl E w X v l) (hc : Chg S w w') (hs : ∀ k, k ∈ S → k < w.heap.size → X k) : Sl E w' X v l := by
  obtain ⟨A, c, css, rfl, h1, h2, h3, h4, h5⟩ := h
  refine ⟨A, c, css, rfl, h1, h2, h3.chg hc (fun ad he h0 hm => h4 ad he h0 (hs _ hm ?_)), h4, h5.chg hc hs⟩
  obtain ⟨ad', he', hb, _⟩ := h3.2 h0
  rw [he] at he'
  rw [Option.some.inj he']; exact hb
theorem Sl.ext {E : Enc α} {w w' : World} {X : Avoid} {v : Value} {l : List α} (h : Sl E w X v l) (hx : Ext w w') : Sl E w' X v l := h.chg (hx.chg []) (by simp)
theorem Sl.mono {E : Enc α} {w : World} {X Y : Avoid} {v : Value} {l : List α} (h : Sl E w X v l) (hs : ∀ k, k < w.heap.size → Y k → X k) : Sl E w Y v l := by
  obtain ⟨A, c, css, rfl, h1, h2, h3, h4, h5⟩ := h
  refine ⟨A, c, css, rfl, h1, h2, h3, (fun ad he h0 hy => h4 ad he h0 (hs _ ?_ hy)), h5.mono hs⟩
  obtain ⟨ad', he', hb, _⟩ := h3.2 h0
  rw [he] at he'
  rw [Option.some.inj he']; exact hb
theorem Sl.nil (E : Enc α) (w : World) (X : Avoid) : Sl E w X (.slice none 0 0) [] :=
  ⟨none, 0, [], rfl, Nat.le_refl _, by simp [maxLen], ⟨by simp, fun h => by simp at h⟩, (fun _ he => by cases he), Each.nil E w X⟩
theorem Sl.inv {E : Enc α} {w : World} {X : Avoid} {A : Option Addr} {n c : Nat} {l : List α} (h : Sl E w X (.slice A n c) l) : n = l.length ∧ n ≤ c ∧ c ≤ maxLen := by
  obtain ⟨A', c', css, e, h1, h2, _⟩ := h
  simp only [Value.slice.injEq] at e
  obtain ⟨rfl, rfl, rfl⟩ := e
  exact ⟨rfl, h1, h2⟩
theorem Sl.form {E : Enc α} {w : World} {X : Avoid} {v : Value} {l : List α} (h : Sl E w X v l) : ∃ A c, v = .slice A l.length c ∧ l.length ≤ c ∧ c ≤ maxLen := by
  obtain ⟨A, c, css, rfl, h1, h2, _⟩ := h
  exact ⟨A, c, rfl, h1, h2⟩
/-- the k-th element: its cells, and where they lie -/
theorem Sl.at_ {E : Enc α} {w : World} {X : Avoid} {A : Option Addr} {n c : Nat} {l : List α} (h : Sl E w X (.slice A n c) l) {k : Nat} (hk : k < l.length) :
    ∃ ad cs, A = some ad ∧ E.rep w X cs l[k] ∧ ad.block < w.heap.size ∧ ∀ j u, cs[j]? = some u → w.cell? (ad.add (k * E.size + j)) = some u := by
  obtain ⟨A', c', css, e, h1, h2, h3, h4, h5⟩ := h
  simp only [Value.slice.injEq] at e
  obtain ⟨rfl, rfl, rfl⟩ := e
  have hkc : k < css.length := by rw [h5.1]; exact hk
  obtain ⟨ad, he, hb, hcell⟩ := h3.2 (show 0 < l.length by omega)
  exact ⟨ad, css[k], he, h5.2 k _ _ (List.getElem?_eq_getElem hkc) (List.getElem?_eq_getElem hk), hb, fun j u hu => hcell _ u (flatten_at css k css[k] h5.lens (List.getElem?_eq_getElem hkc) j u hu)⟩
theorem add_pos (a : Addr) (i : Nat) (h : 0 < i) : a.add i = ⟨a.block, a.off + i, none⟩ := by
  unfold Addr.add
  rw [if_neg (by omega)]
/-- the cells of an element, as a walk spells them -/
theorem cell0 {w : World} {ad : Addr} {m : Nat} {cs : List Value} (h : ∀ j u, cs[j]? = some u → w.cell? (ad.add (m + j)) = some u) {u : Value} (hu : cs[0]? = some u) : w.cell? (ad.add m) = some u := h 0 u hu
theorem cellS {w : World} {ad : Addr} {m : Nat} {cs : List Value} (h : ∀ j u, cs[j]? = some u → w.cell? (ad.add (m + j)) = some u) (j : Nat) {u : Value} (hu : cs[j + 1]? = some u) : w.cell? ⟨(ad.add m).block, (ad.add m).off + (j + 1), none⟩ = some u := by
  have h1 := h (j + 1) u hu
  rw [← add_of_add, add_pos _ (j + 1) (by omega)] at h1
  exact h1
/-- slices of such, as a type of elements -/
def slice (E : Enc α) : Enc (List α) where
  size := 1
  rep w X cs l := ∃ v, cs = [v] ∧ Sl E w X v l
  len h := by obtain ⟨v, rfl, _⟩ := h; rfl
  one h := by
    obtain ⟨v, rfl, hb⟩ := h
    obtain ⟨A, c, rfl, _⟩ := hb.form
    intro u hu; simp at hu; subst hu; rfl
  chg h hc hs := by obtain ⟨v, rfl, hb⟩ := h; exact ⟨v, rfl, hb.chg hc hs⟩
  mono h hs := by obtain ⟨v, rfl, hb⟩ := h; exact ⟨v, rfl, hb.mono hs⟩
/-! ### what a law is handed -/
section
open Go.ChangeShapes Go.WideShapes Go.ChangeAt
def Opens (t : TypeId) (E : Enc α) : Prop :=
  ∀ (H : Type) (enc : TypeId × Value → H) (w : World) (fuel : Nat) (cs : List Value) (x : DataW H × List MemPlace),
    DataW.trod enc Try.prog w 0 (fun _ => true) true fuel t cs = some x → ∃ a, E.rep w noneAt cs a
theorem opens_int {t : TypeId} {k : IntKind} {lo hi : Int} (ht : Try.prog.underlying t = some (.int k)) (hl : ∀ n, (Lit.int k n).wf = true → lo ≤ n ∧ n ≤ hi) : Opens t (int k lo hi) := by
  intro H enc w fuel cs x h
  obtain ⟨n, rfl, _, hw⟩ := DataW.trod_int ht h
  exact ⟨n, rfl, hl n hw⟩
theorem wf_i64 (n : Int) (h : (Lit.int .i64 n).wf = true) : -9223372036854775808 ≤ n ∧ n ≤ 9223372036854775807 := by
  simpa [Lit.wf, IntKind.min, IntKind.max, IntKind.bits, IntKind.signed] using h
theorem wf_u64 (n : Int) (h : (Lit.int .u64 n).wf = true) : 0 ≤ n ∧ n ≤ 18446744073709551615 := by
  simpa [Lit.wf, IntKind.min, IntKind.max, IntKind.bits, IntKind.signed] using h
theorem opens_bool {t : TypeId} (ht : Try.prog.underlying t = some .bool) : Opens t bool := by
  intro H enc w fuel cs x h
  obtain ⟨b, rfl, _⟩ := DataW.trod_bool ht h
  exact ⟨b, rfl⟩
theorem opens_bytes {t e : TypeId} (ht : Try.prog.underlying t = some (.slice e)) (he : Try.prog.underlying e = some (.int .u8)) (hc : Try.prog.cellsOf e = 1) : Opens t byts := by
  intro H enc w fuel cs x h
  rcases open_ints ht he hc h with ⟨rfl, _⟩ | ⟨x, l, c, zs, rfl, _, hl, hm, hz, _, hcell, hwz⟩
  · exact ⟨[], _, rfl, .of (Bs.nil w)⟩
  · obtain ⟨b, hb⟩ := bs_of_ints hl hm (by simpa using hz) hcell hwz
    exact ⟨b, _, rfl, .of hb⟩
theorem exists_list {β : Type} (P : Nat → β → Prop) : ∀ n : Nat, (∀ i, i < n → ∃ b, P i b) → ∃ l : List β, l.length = n ∧ ∀ i b, l[i]? = some b → P i b
  | 0, _ => ⟨[], rfl, fun i b h => by simp at h⟩
  | n + 1, h => by
    obtain ⟨l, hl, hp⟩ := exists_list P n fun i hi => h i (by omega)
    obtain ⟨b, hb⟩ := h n (by omega)
    refine ⟨l ++ [b], by simp [hl], fun i c hc => ?_⟩
    by_cases hi : i < l.length
    · rw [List.getElem?_append_left hi] at hc; exact hp i c hc
    · rw [List.getElem?_append_right (by omega)] at hc
      have hin : i = n := by
        rcases Nat.lt_or_ge (i - l.length) 1 with h1 | h1
        · omega
        · rw [List.getElem?_eq_none (by simpa using h1)] at hc; cases hc
      subst hin
      have : i - l.length = 0 := by omega
      rw [this] at hc
      simp at hc; subst hc; exact hb
theorem opens_slice {t e : TypeId} {E : Enc α} (ht : Try.prog.underlying t = some (.slice e)) (hc : Try.prog.cellsOf e = E.size) (hpos : 0 < E.size) (ho : Opens e E) : Opens t (slice E) := by
  intro H enc w fuel cs x h
  rcases Go.Deep.open_slice ht h with ⟨rfl, _⟩ | ⟨a, len, cap, m, n, D, Pl, rfl, _, hl, hm, hmm, _, hi⟩
  · exact ⟨[], _, rfl, Sl.nil E w _⟩
  · have hlm : len ≤ m := by rw [hmm]; split <;> omega
    obtain ⟨z, hz, hp⟩ := exists_list (fun i (b : List Value × α) => (∀ j, j < E.size → w.cell? ((a.add (i * E.size)).add j) = b.1[j]?) ∧ E.rep w noneAt b.1 b.2) len fun i hil => by
      obtain ⟨cs', h1, h2⟩ := hi i (by omega)
      obtain ⟨y, hy⟩ := ho H enc w n cs' _ h2
      rw [hc] at h1
      obtain ⟨_, _, h3⟩ := World.cells?_some h1
      exact ⟨(cs', y), h3, hy⟩
    have hE : Each E w noneAt (z.map (·.1)) (z.map (·.2)) := by
      refine ⟨by simp, fun k c b h1 h2 => ?_⟩
      rw [List.getElem?_map, Option.map_eq_some_iff] at h1 h2
      obtain ⟨q, h1, rfl⟩ := h1
      obtain ⟨q', h2, rfl⟩ := h2
      rw [h1] at h2
      obtain rfl := Option.some.inj h2
      exact (hp k q h1).2
    have hlen : (z.map (·.2)).length = len := by simp [hz]
    refine ⟨z.map (·.2), .slice (some a) len cap, rfl, some a, cap, z.map (·.1), by rw [hlen], by rw [hlen]; exact hl, hm, ?_, fun _ _ _ h => h, hE⟩
    refine ⟨hE.len, fun h0 => ⟨a, rfl, ?_, ?_⟩⟩
    · -- where there is an element, its first cell lies in memory
      obtain ⟨q, hq⟩ : ∃ q, z[0]? = some q := ⟨z[0]'(by rw [hz]; omega), List.getElem?_eq_getElem _⟩
      obtain ⟨h3, h4⟩ := hp 0 q hq
      have hl4 := E.len h4
      have h5 := h3 0 (by omega)
      rw [List.getElem?_eq_getElem (by omega)] at h5
      have := World.block_lt_of_cell? w _ h5
      rwa [block_of_add, block_of_add] at this
    · intro j u hu
      have hj : j < len * E.size := by
        have := (List.getElem?_eq_some_iff.1 hu).1
        rw [hE.len, hlen] at this
        exact this
      have hk : j / E.size < z.length := by rw [hz]; exact Nat.div_lt_of_lt_mul (by rw [Nat.mul_comm]; exact hj)
      have hq : z[j / E.size]? = some z[j / E.size] := List.getElem?_eq_getElem hk
      obtain ⟨h3, h4⟩ := hp _ _ hq
      have hr : j % E.size < E.size := Nat.mod_lt _ hpos
      have hjj : j / E.size * E.size + j % E.size = j := by rw [Nat.mul_comm]; exact Nat.div_add_mod j E.size
      have hl4 := E.len h4
      have hin : z[j / E.size].1[j % E.size]? = some (z[j / E.size].1[j % E.size]'(by omega)) := List.getElem?_eq_getElem _
      have h6 := flatten_at (z.map (·.1)) (j / E.size) z[j / E.size].1 hE.lens (by rw [List.getElem?_map, hq]; rfl) (j % E.size) _ hin
      rw [hjj] at h6
      rw [h6] at hu
      obtain rfl := Option.some.inj hu
      have h7 := h3 _ hr
      rw [add_of_add, hjj, hin] at h7
      exact h7
/-- the fields of a struct, from a place on -/
inductive Fields : List Field → Nat → (α : Type) → Enc α → Prop
  | nil (o : Nat) : Fields [] o Unit unit
  | cons {f : Field} {fs : List Field} {o : Nat} {α β : Type} {E : Enc α} {F : Enc β} (ho : f.offset = o) (hs : Try.prog.cellsOf f.type = E.size) (hE : Opens f.type E) (h : Fields fs (o + E.size) β F) : Fields (f :: fs) o (α × β) (pair E F)
theorem Fields.get {H : Type} {enc : TypeId × Value → H} {w : World} {n : Nat} {cs : List Value} {fs : List Field} {o : Nat} {α : Type} {E : Enc α} (hF : Fields fs o α E) (hl : cs.length = o + E.size)
    (h : ∀ f ∈ fs, ∃ y, DataW.trod enc Try.prog w 0 (fun _ => true) true n f.type ((cs.drop f.offset).take (Try.prog.cellsOf f.type)) = some y) : ∃ a, E.rep w noneAt (cs.drop o) a := by
  induction hF with
  | nil o => exact ⟨(), List.drop_eq_nil_of_le (by rw [hl]; exact Nat.le_refl _)⟩
  | @cons f fs o α β E F ho hs hE hF ih =>
    obtain ⟨y, hy⟩ := h f List.mem_cons_self
    rw [ho, hs] at hy
    obtain ⟨a, ha⟩ := hE H enc w n _ y hy
    obtain ⟨b, hb⟩ := ih (by rw [hl]; show o + (E.size + F.size) = _; omega) fun g hg => h g (List.mem_cons_of_mem _ hg)
    refine ⟨(a, b), (cs.drop o).take E.size, cs.drop (o + E.size), ?_, ha, hb⟩
    rw [← List.drop_drop, List.take_append_drop]
theorem opens_struct {t : TypeId} {fs : Array Field} {α : Type} {E : Enc α} (ht : Try.prog.underlying t = some (.struct fs)) (hc : Try.prog.cellsOf t = E.size) (hF : Fields fs.toList 0 α E) : Opens t E := by
  intro H enc w fuel cs x h
  obtain ⟨xs, n, _, _, hl, hlen, hf⟩ := DataW.trod_struct ht h
  have := Fields.get (enc := enc) (w := w) (n := n) (cs := cs) hF (by rw [hl, hc]; omega) fun f hfm => by
    obtain ⟨i, hi⟩ := List.mem_iff_getElem?.1 hfm
    have hi' : fs[i]? = some f := by simpa using hi
    have h1 := hf i f hi'
    have hil : i < xs.length := by rw [hlen]; exact (Array.getElem?_eq_some_iff.1 hi').1
    rw [List.getElem?_eq_getElem hil] at h1
    exact ⟨_, h1⟩
  simpa using this
theorem Opens.map {t : TypeId} {α β : Type} {E : Enc β} (h : Opens t E) (f : α → β) (hf : ∀ b, ∃ a, f a = b) : Opens t (map E f) := by
  intro H enc w fuel cs x hx
  obtain ⟨b, hb⟩ := h H enc w fuel cs x hx
  obtain ⟨a, rfl⟩ := hf b
  exact ⟨a, hb⟩
end
end Enc
end Go.Proofs.Ytlblgopfdadalaa
namespace Go.Proofs.Ytlblgopfdadalaa
set_option linter.unusedVariables false
set_option linter.unusedSimpArgs false
set_option linter.unnecessarySimpa false
set_option maxRecDepth 100000
open Go.RowKit
/-! plain lists -/
section
variable {α : Type}
theorem flat_len (css : List (List α)) (k : Nat) (h : ∀ c ∈ css, c.length = k) : css.flatten.length = css.length * k := by
  induction css with
  | nil => simp
  | cons c css ih =>
    rw [List.flatten_cons, List.length_append, h c List.mem_cons_self, ih fun d hd => h d (List.mem_cons_of_mem _ hd), List.length_cons, Nat.succ_mul]; omega
theorem flat_take (css : List (List α)) (k i : Nat) (h : ∀ c ∈ css, c.length = k) : css.flatten.take (i * k) = (css.take i).flatten := by
  have e : css.flatten = (css.take i).flatten ++ (css.drop i).flatten := by rw [← List.flatten_append, List.take_append_drop]
  by_cases hi : i ≤ css.length
  · have hl := flat_len (css.take i) k fun c hc => h c (List.mem_of_mem_take hc)
    rw [List.length_take, Nat.min_eq_left hi] at hl
    rw [e, ← hl, List.take_left']
    rfl
  · rw [List.take_of_length_le (l := css) (by omega), List.take_of_length_le]
    rw [flat_len css k h]
    exact Nat.mul_le_mul_right _ (by omega)
theorem flat_drop (css : List (List α)) (k i : Nat) (h : ∀ c ∈ css, c.length = k) : css.flatten.drop (i * k) = (css.drop i).flatten := by
  have e := List.take_append_drop (i * k) css.flatten
  rw [flat_take css k i h] at e
  have e2 : css.flatten = (css.take i).flatten ++ (css.drop i).flatten := by rw [← List.flatten_append, List.take_append_drop]
  exact List.append_cancel_left (e.trans e2)
end
end Go.Proofs.Ytlblgopfdadalaa
namespace Go.Proofs.Ytlblgopfdadalaa
set_option linter.unusedVariables false
set_option linter.unusedSimpArgs false
set_option linter.unnecessarySimpa false
set_option maxRecDepth 100000
open Go.RowKit
section
variable {α : Type} {E : Enc α} {w : World} {X : Avoid} {A : Option Addr} {n c k : Nat} {l : List α}
theorem Sl.front (h : Enc.Sl E w X (.slice A n c) l) (hk : k ≤ l.length) : Enc.Sl E w X (.slice A k c) (l.take k) := by
  obtain ⟨A', c', css, e, h1, h2, h3, h4, h5⟩ := h
  simp only [Value.slice.injEq] at e
  obtain ⟨rfl, rfl, rfl⟩ := e
  have hl : (l.take k).length = k := by rw [List.length_take, Nat.min_eq_left hk]
  refine ⟨A, c, css.take k, by rw [hl], by rw [hl]; omega, h2, ?_, fun ad he h0 => h4 ad he (by rw [hl] at h0; omega), h5.take k⟩
  rw [hl, ← flat_take css E.size k h5.lens]
  exact h3.front hk
theorem Sl.rest (h : Enc.Sl E w X (.slice A n c) l) (hk : k ≤ l.length) : Enc.Sl E w X (.slice (cutA E.size A c k) (l.length - k) (c - k)) (l.drop k) := by
  obtain ⟨A', c', css, e, h1, h2, h3, h4, h5⟩ := h
  simp only [Value.slice.injEq] at e
  obtain ⟨rfl, rfl, rfl⟩ := e
  have hl : (l.drop k).length = l.length - k := List.length_drop
  refine ⟨cutA E.size A c k, c - k, css.drop k, by rw [hl], by rw [hl]; omega, by omega, ?_, fun ad he h0 => ?_, h5.drop k⟩
  · rw [hl, ← flat_drop css E.size k h5.lens]
    exact h3.cutA hk h1
  · rw [hl] at h0
    unfold cutA at he
    split at he
    · exact h4 ad he (by omega)
    · cases A with
      | none => cases he
      | some a =>
        have := Option.some.inj he
        have hb : ad.block = a.block := by
          rw [← this]
          unfold Addr.add
          split <;> rfl
        rw [hb]
        exact h4 a rfl (by omega)
end
end Go.Proofs.Ytlblgopfdadalaa
namespace Go.Proofs.Ytlblgopfdadalaa
set_option linter.unusedVariables false
set_option linter.unusedSimpArgs false
set_option linter.unnecessarySimpa false
set_option maxRecDepth 100000
open Go.RowKit
end Go.Proofs.Ytlblgopfdadalaa
