import Derived.Test.YtggfemdgccgbpaaPk1
/- octet: what each of its functions makes of bytes. -/
namespace Go.Proofs.Ytggfemdgccgbpaa
set_option linter.unusedVariables false
set_option linter.unusedSimpArgs false
set_option linter.unnecessarySimpa false
set_option maxRecDepth 100000
open Go.RowKit
theorem nw_mk {w w' : World} {v : Value} {l : Bytes} {n : Nat} (hn : Hid (List.length l = n)) (h : w'.ownsRow w.heap.size 5 1 v (0 + n) ([] ++ bv l)) : Nw w w' v l := by
  have hn' := hn.out
  subst hn'
  simpa [Nw] using h























/-- the n bytes of a number, the greatest first -/
def be : Nat → Nat → Bytes
  | 0, _ => []
  | n + 1, v => UInt8.ofNat (v / 2 ^ (8 * n)) :: be n v
def oput (l : Bytes) (v n : Int) : Bytes := if n < 0 ∨ 8 < n then l else l ++ be n.toNat v.toNat
theorem be_length (n v : Nat) : (be n v).length = n := by induction n with
  | zero => rfl
  | succ n ih => simp [be, ih]
theorem Reads.one (w : World) (e : TypeId) (X : Value) : Reads (w.alloc (.cells #[X] e)) (w.heap.size + 1) 1 (some ⟨w.heap.size, 0, none⟩) 1 [X] := by
  refine ⟨rfl, fun _ => ⟨_, rfl, by simp, fun j u hu => ?_⟩⟩
  rcases j with _ | j
  · simp at hu; subst hu
    rw [show (⟨w.heap.size, 0, none⟩ : Addr).add 0 = ⟨w.heap.size, 0, none⟩ from rfl, cell_of_row _ _ _ _ _ _ (heap_alloc_new w _)]; rfl
  · simp at hu
theorem one_int (k : IntKind) (n : Int) : ∀ u ∈ [Value.int k n], u.oneCell' = true := by
  intro u hu
  simp at hu; subst hu; rfl
theorem be_step (k : Nat) (v : Int) (hv : 0 ≤ v ∧ v ≤ 18446744073709551615) : be (k + 1) v.toNat = UInt8.ofNat (v.toNat / 2 ^ (8 * k)) :: be k v.toNat ∧
    Value.int .u8 (v / 2 ^ (8 * k) % 256) = .int .u8 ((UInt8.ofNat (v.toNat / 2 ^ (8 * k))).toNat : Nat) := by
  refine ⟨rfl, ?_⟩
  obtain ⟨n, rfl⟩ := Int.eq_ofNat_of_zero_le hv.1
  simp















































/-- the number of bytes, the greatest first -/
def val (l : Bytes) : Nat := l.foldl (fun a b => a * 256 + b.toNat) 0
theorem val_snoc (l : Bytes) (b : UInt8) : val (l ++ [b]) = val l * 256 + b.toNat := by simp [val]
theorem val_from (l : Bytes) : ∀ a : Nat, l.foldl (fun a b => a * 256 + b.toNat) a < (a + 1) * 256 ^ l.length := by
  induction l with
  | nil => intro a; simp
  | cons b l ih =>
    intro a
    have h := ih (a * 256 + b.toNat)
    have hb := b.toNat_lt
    have h2 : (a * 256 + b.toNat + 1) * 256 ^ l.length ≤ ((a + 1) * 256) * 256 ^ l.length := Nat.mul_le_mul_right _ (by omega)
    simp only [List.foldl_cons, List.length_cons, Nat.pow_succ]
    rw [Nat.mul_assoc, Nat.mul_comm 256, ] at h2
    omega
theorem val_lt (l : Bytes) : val l < 256 ^ l.length := by have := val_from l 0; simpa [val] using this
def otake (l : Bytes) (n : Int) : Int × Int := if n < 0 ∨ 8 < n then (0, 1) else if (l.length : Int) < n then (0, 3) else (val (l.take n.toNat), 0)
theorem Reads.byte {w : World} {B : Nat} {A : Option Addr} {l : Bytes} {n k : Nat} (h : Reads w B 1 A n (bv l)) (hk : k < n) :
    ∃ ad b, A = some ad ∧ ad.block < B ∧ Hid (l[k]? = some b) ∧ w.cell? (ad.add k) = some (.int .u8 (b.toNat : Nat)) ∧ (b.toNat : Int) ≤ 255 := by
  obtain ⟨ad, u, h1, h2, h3, h4⟩ := h.at_ hk
  have hl : k < l.length := by have := h.1; simp at this; omega
  refine ⟨ad, l[k], h1, h2, hide (by simp [hl]), ?_, by have := l[k].toNat_lt; omega⟩
  rw [bv_at l k hl] at h3
  rw [h4, ← h3]
theorem val_take_lt (l : Bytes) (k : Nat) (h : k < 8) : (val (l.take k) : Int) ≤ 72057594037927935 := by
  have h1 := val_lt (l.take k)
  have h2 : 256 ^ (l.take k).length ≤ 256 ^ 7 := Nat.pow_le_pow_right (by omega) (by have := List.length_take_le k l; omega)
  have h3 : (256 : Nat) ^ 7 = 72057594037927936 := by decide
  omega
theorem take_step (l : Bytes) (k : Nat) (b : UInt8) (h : Hid (l[k]? = some b)) (hv : (val (l.take k) : Int) ≤ 72057594037927935) :
    bits .or .u64 ((val (l.take k) : Int) * 256) (b.toNat : Int) = (val (l.take (k + 1)) : Nat) := by
  have hb := b.toNat_lt
  have e1 : l.take (k + 1) = l.take k ++ [b] := by rw [List.take_add_one, h.out]; rfl
  rw [e1, val_snoc]
  have e2 : (val (l.take k) : Int) * 256 = ((val (l.take k) * 256 : Nat) : Int) := by simp
  rw [e2, u64_or_nat _ _ (by omega) (by omega)]
  have e3 := Nat.shiftLeft_add_eq_or_of_lt (i := 8) (b := b.toNat) (by omega) (val (l.take k))
  rw [Nat.shiftLeft_eq] at e3
  simp only [Nat.reducePow] at e3
  rw [e3]

































































/-! ### lists of bytes -/
/-- A value of type [][]byte that reads as ls. -/
def Parts (w : World) (x : Value) (ls : List Bytes) : Prop :=
  ∃ A c vs, x = .slice A ls.length c ∧ ls.length ≤ c ∧ c ≤ maxLen ∧ Reads w w.heap.size 1 A ls.length vs ∧ ∀ (k : Nat) (b : Bytes), ls[k]? = some b → ∃ v, vs[k]? = some v ∧ Bs w v b
theorem Parts.ext {w w' : World} {x : Value} {ls : List Bytes} (h : Parts w x ls) (hx : Ext w w') : Parts w' x ls := by
  obtain ⟨A, c, vs, rfl, h1, h2, h3, h4⟩ := h
  exact ⟨A, c, vs, rfl, h1, h2, h3.ext hx, fun k b hk => by obtain ⟨v, hv, hb⟩ := h4 k b hk; exact ⟨v, hv, hb.ext hx⟩⟩
def lens (ls : List Bytes) : Nat := (ls.map List.length).sum
theorem lens_snoc (ls : List Bytes) (b : Bytes) : lens (ls ++ [b]) = lens ls + b.length := by simp [lens]
theorem lens_append (a b : List Bytes) : lens (a ++ b) = lens a + lens b := by simp [lens]
theorem lens_take (ls : List Bytes) (k : Nat) (b : Bytes) (h : ls[k]? = some b) : lens (ls.take (k + 1)) = lens (ls.take k) + b.length ∧ lens (ls.take k) + b.length ≤ lens ls ∧ (ls.take (k + 1)).flatten = (ls.take k).flatten ++ b := by
  have e : ls.take (k + 1) = ls.take k ++ [b] := by rw [List.take_add_one, h]; rfl
  have h2 : ls = ls.take (k + 1) ++ ls.drop (k + 1) := (List.take_append_drop _ _).symm
  refine ⟨by rw [e, lens_snoc], ?_, by rw [e]; simp⟩
  rw [← lens_snoc, ← e]
  have h3 := congrArg lens h2
  rw [lens_append] at h3
  omega
theorem lens_flatten (ls : List Bytes) : ls.flatten.length = lens ls := by simp [lens, List.length_flatten]

























































theorem Parts.lit {w : World} (e : TypeId) {vs : List Value} {ls : List Bytes} (hl : vs.length = ls.length) (hm : ls.length ≤ maxLen) (h : ∀ (k : Nat) (b : Bytes), ls[k]? = some b → ∃ v, vs[k]? = some v ∧ Bs w v b) :
    Parts (w.alloc (.cells vs.toArray e)) (.slice (some ⟨w.heap.size, 0, none⟩) ls.length ls.length) ls := by
  have hx : Ext w (w.alloc (.cells vs.toArray e)) := (Below.refl _ _).alloc (Nat.le_refl _) _
  refine ⟨_, _, vs, rfl, Nat.le_refl _, hm, ?_, fun k b hk => ?_⟩
  · have := Reads.of_own (World.ownsRow_lit (base := 0) (e := e) (size := 1) w vs.toArray ls.length (Nat.zero_le _) hm (by simpa using hl))
    simpa using this
  · obtain ⟨v, hv, hb⟩ := h k b hk
    exact ⟨v, hv, hb.ext hx⟩
theorem Parts.one {w : World} (e : TypeId) {v : Value} {b : Bytes} {g : Nat} (hg : w.heap.size = g) (h : Bs w v b) : Parts (w.alloc (.cells #[v] e)) (.slice (some ⟨g, 0, none⟩) 1 1) [b] := by
  subst hg
  refine Parts.lit (vs := [v]) (ls := [b]) e rfl (by simp [maxLen]) ?_
  intro k b' hk
  rcases k with _ | k
  · simp at hk; subst hk; exact ⟨_, rfl, h⟩
  · simp at hk
theorem Parts.two {w : World} (e : TypeId) {v1 v2 : Value} {b1 b2 : Bytes} {g : Nat} (hg : w.heap.size = g) (h1 : Bs w v1 b1) (h2 : Bs w v2 b2) : Parts (w.alloc (.cells #[v1, v2] e)) (.slice (some ⟨g, 0, none⟩) 2 2) [b1, b2] := by
  subst hg
  refine Parts.lit (vs := [v1, v2]) (ls := [b1, b2]) e rfl (by simp [maxLen]) ?_
  intro k b' hk
  rcases k with _ | _ | k
  · simp at hk; subst hk; exact ⟨_, rfl, h1⟩
  · simp at hk; subst hk; exact ⟨_, rfl, h2⟩
  · simp at hk




def oputBytes (b s : Bytes) : Bytes := b ++ be 4 s.length ++ s
















def otakeBytes (b : Bytes) : Bytes × Int × Int :=
  if b.length < 4 ∨ b.length - 4 < val (b.take 4) then ([], 0, 3) else ((b.drop 4).take (val (b.take 4)), ((4 + val (b.take 4) : Nat) : Int), 0)
/-- What a function returns that reads bytes off bytes: new bytes, how many were read, an error. -/
def RetRead (w w' : World) (e : Ending) (r : Bytes × Int × Int) : Prop :=
  ∃ (m : Bytes) (A : Option Addr) (c : Nat) (n k : Int), Hid ((m, n, k) = r) ∧ e = .returned (.tuple #[.slice A m.length c, .int .i64 n, .int .i64 k]) ∧ Nw w w' (.slice A m.length c) m ∧ Ext w w'
theorem RetRead.none_ {w w' : World} (hx : Ext w w') (k : Int) : RetRead w w' (.returned (.tuple #[.slice none 0 0, .int .i64 0, .int .i64 k])) ([], 0, k) :=
  ⟨[], none, 0, 0, k, hide rfl, rfl, World.ownsRow_nil _ _ _ _, hx⟩
theorem otake_cases (b : Bytes) (n : Nat) (hn : n ≤ 8) : (b.length < n ∧ otake b n = (0, 3)) ∨ (n ≤ b.length ∧ otake b n = (((val (b.take n) : Nat) : Int), (0 : Int))) := by
  have h1 : ¬ ((n : Int) < 0 ∨ 8 < (n : Int)) := by omega
  rcases Nat.lt_or_ge b.length n with h | h
  · exact .inl ⟨h, by rw [otake, if_neg h1, if_pos (by omega)]⟩
  · exact .inr ⟨h, by rw [otake, if_neg h1, if_neg (by omega)]; rfl⟩



















































end Go.Proofs.Ytggfemdgccgbpaa

