import Derived.Test.YtboncnlcomeahaaPk5
/- Records in plain Lean: their bytes, and which records bytes are. -/
namespace Go.Proofs.Ytboncnlcomeahaa
set_option linter.unusedVariables false
set_option linter.unusedSimpArgs false
set_option linter.unnecessarySimpa false
set_option maxRecDepth 100000
open Go.RowKit
structure Hd where
  term : Int
  vote : Int
structure En where
  term : Int
  data : Bytes
structure Sn where
  index : Int
  term : Int
  state : Bytes
structure Rec where
  kind : Int
  hard : Hd
  ent : En
  index : Int
  snap : Sn
def Hd0 : Hd := ⟨0, 0⟩
def En0 : En := ⟨0, []⟩
def Sn0 : Sn := ⟨0, 0, []⟩
def may (r : Rec) : Bool := if r.kind = 1 then decide (0 ≤ r.hard.vote) && decide (r.hard.vote ≤ 7) else decide (1 < r.kind) && decide (r.kind ≤ 4)
structure Rec.wide (r : Rec) : Prop where
  k0 : -9223372036854775808 ≤ r.kind
  k1 : r.kind ≤ 9223372036854775807
  t0 : 0 ≤ r.hard.term
  t1 : r.hard.term ≤ 18446744073709551615
  v0 : -9223372036854775808 ≤ r.hard.vote
  v1 : r.hard.vote ≤ 9223372036854775807
  e0 : 0 ≤ r.ent.term
  e1 : r.ent.term ≤ 18446744073709551615
  i0 : 0 ≤ r.index
  i1 : r.index ≤ 18446744073709551615
  n0 : 0 ≤ r.snap.index
  n1 : r.snap.index ≤ 18446744073709551615
  s0 : 0 ≤ r.snap.term
  s1 : r.snap.term ≤ 18446744073709551615
def Rec.small (r : Rec) : Prop := r.ent.data.length ≤ 60 ∧ r.snap.state.length ≤ 60
def one (r : Rec) : Bytes :=
  UInt8.ofNat r.kind.toNat :: (if r.kind = 1 then be 8 r.hard.term.toNat ++ be 1 r.hard.vote.toNat else if r.kind = 2 then be 8 r.ent.term.toNat ++ r.ent.data
    else if r.kind = 3 then be 8 r.index.toNat else be 8 r.snap.index.toNat ++ (be 8 r.snap.term.toNat ++ r.snap.state))
def lput : List Rec → Bytes
  | [] => []
  | r :: l => (if may r = true then oframe (one r) else []) ++ lput l
def fixr (r : Rec) : Rec :=
  if r.kind = 1 then ⟨r.kind, r.hard, En0, 0, Sn0⟩ else if r.kind = 2 then ⟨r.kind, Hd0, r.ent, 0, Sn0⟩ else if r.kind = 3 then ⟨r.kind, Hd0, En0, r.index, Sn0⟩
  else if r.kind = 4 then ⟨r.kind, Hd0, En0, 0, r.snap⟩ else ⟨r.kind, Hd0, En0, 0, Sn0⟩
def right : List Rec → List Rec
  | [] => []
  | r :: l => if may r = true then fixr r :: right l else right l
def orec (b : Bytes) : Option Rec :=
  if b.length < 9 then none
  else if val (b.take 1) = 1 then (if (b.drop 9).length = 1 ∧ val (b.drop 9) ≤ 7 then some ⟨1, ⟨val ((b.drop 1).take 8), val (b.drop 9)⟩, En0, 0, Sn0⟩ else none)
  else if val (b.take 1) = 2 then some ⟨2, Hd0, ⟨val ((b.drop 1).take 8), b.drop 9⟩, 0, Sn0⟩
  else if val (b.take 1) = 3 then (if (b.drop 9).length = 0 then some ⟨3, Hd0, En0, val ((b.drop 1).take 8), Sn0⟩ else none)
  else if val (b.take 1) = 4 then (if 8 ≤ (b.drop 9).length then some ⟨4, Hd0, En0, 0, ⟨val ((b.drop 1).take 8), val ((b.drop 9).take 8), (b.drop 9).drop 8⟩⟩ else none)
  else none
theorem val_one (x : UInt8) : val [x] = x.toNat := by simp [val]
theorem be8 {t : Int} (h0 : 0 ≤ t) (h1 : t ≤ 18446744073709551615) : ((val (be 8 t.toNat) : Nat) : Int) = t := by
  rw [val_be, Nat.mod_eq_of_lt (by omega)]
  omega
theorem may_kind {r : Rec} (h : may r = true) : r.kind = 1 ∧ 0 ≤ r.hard.vote ∧ r.hard.vote ≤ 7 ∨ r.kind = 2 ∨ r.kind = 3 ∨ r.kind = 4 := by
  unfold may at h
  split at h
  · simp at h
    omega
  · simp at h
    omega
theorem orec_one {r : Rec} (hm : may r = true) (hw : r.wide) : orec (one r) = some (fixr r) := by
  obtain ⟨kind, ⟨ht, hv⟩, ⟨et, ed⟩, ix, ⟨si, st, ss⟩⟩ := r
  obtain ⟨-, -, t0, t1, -, -, e0, e1, i0, i1, n0, n1, s0, s1⟩ := hw
  simp only at t0 t1 e0 e1 i0 i1 n0 n1 s0 s1
  rcases may_kind hm with ⟨h, v0, v1⟩ | h | h | h <;> simp only at h <;> subst h
  · simp only at v0 v1
    have b8 := be8 t0 t1
    have e8 := be_length 8 ht.toNat
    have b1 : val (be 1 hv.toNat) = hv.toNat := by rw [val_be]; exact Nat.mod_eq_of_lt (by omega)
    unfold orec one fixr
    simp only [if_true]
    have d1 : (UInt8.ofNat (1 : Int).toNat :: (be 8 ht.toNat ++ be 1 hv.toNat)).drop 1 = be 8 ht.toNat ++ be 1 hv.toNat := rfl
    have d9 : (UInt8.ofNat (1 : Int).toNat :: (be 8 ht.toNat ++ be 1 hv.toNat)).drop 9 = be 1 hv.toNat := by
      rw [show 9 = 1 + 8 from rfl, ← List.drop_drop, d1]; exact drop_app _ _ _ e8
    have k1 : val ((UInt8.ofNat (1 : Int).toNat :: (be 8 ht.toNat ++ be 1 hv.toNat)).take 1) = 1 := by simp [val]
    rw [d1, d9, k1, take_app _ _ _ e8, b8, b1, if_neg (by simp [be_length]), if_pos rfl, if_pos ⟨be_length _ _, by omega⟩]
    simp
    omega
  · have b8 := be8 e0 e1
    have e8 := be_length 8 et.toNat
    unfold orec one fixr
    simp only [if_true, if_false, show ¬ ((2 : Int) = 1) by decide]
    have d1 : (UInt8.ofNat (2 : Int).toNat :: (be 8 et.toNat ++ ed)).drop 1 = be 8 et.toNat ++ ed := rfl
    have d9 : (UInt8.ofNat (2 : Int).toNat :: (be 8 et.toNat ++ ed)).drop 9 = ed := by
      rw [show 9 = 1 + 8 from rfl, ← List.drop_drop, d1]; exact drop_app _ _ _ e8
    have k1 : val ((UInt8.ofNat (2 : Int).toNat :: (be 8 et.toNat ++ ed)).take 1) = 2 := by simp [val]
    rw [d1, d9, k1, take_app _ _ _ e8, b8, if_neg (by simp [be_length] <;> omega), if_neg (by decide), if_pos rfl]
  · have b8 := be8 i0 i1
    have e8 := be_length 8 ix.toNat
    unfold orec one fixr
    simp only [if_true, if_false, show ¬ ((3 : Int) = 1) by decide, show ¬ ((3 : Int) = 2) by decide]
    have d1 : (UInt8.ofNat (3 : Int).toNat :: be 8 ix.toNat).drop 1 = be 8 ix.toNat := rfl
    have d9 : (UInt8.ofNat (3 : Int).toNat :: be 8 ix.toNat).drop 9 = [] := by
      rw [show 9 = 1 + 8 from rfl, ← List.drop_drop, d1]; exact List.drop_eq_nil_of_le (by omega)
    have k1 : val ((UInt8.ofNat (3 : Int).toNat :: be 8 ix.toNat).take 1) = 3 := by simp [val]
    rw [d1, d9, k1, List.take_of_length_le (by omega : (be 8 ix.toNat).length ≤ 8), b8, if_neg (by simp [be_length]), if_neg (by decide), if_neg (by decide), if_pos rfl, if_pos (by simp)]
  · have b8 := be8 n0 n1
    have b9 := be8 s0 s1
    have e8 := be_length 8 si.toNat
    have e9 := be_length 8 st.toNat
    unfold orec one fixr
    simp only [if_true, if_false, show ¬ ((4 : Int) = 1) by decide, show ¬ ((4 : Int) = 2) by decide, show ¬ ((4 : Int) = 3) by decide]
    have d1 : (UInt8.ofNat (4 : Int).toNat :: (be 8 si.toNat ++ (be 8 st.toNat ++ ss))).drop 1 = be 8 si.toNat ++ (be 8 st.toNat ++ ss) := rfl
    have d9 : (UInt8.ofNat (4 : Int).toNat :: (be 8 si.toNat ++ (be 8 st.toNat ++ ss))).drop 9 = be 8 st.toNat ++ ss := by
      rw [show 9 = 1 + 8 from rfl, ← List.drop_drop, d1]; exact drop_app _ _ _ e8
    have k1 : val ((UInt8.ofNat (4 : Int).toNat :: (be 8 si.toNat ++ (be 8 st.toNat ++ ss))).take 1) = 4 := by simp [val]
    rw [d1, d9, k1, take_app _ _ _ e8, b8, take_app _ _ _ e9, b9, drop_app _ _ _ e9, if_neg (by simp [be_length] <;> omega), if_neg (by decide), if_neg (by decide), if_neg (by decide), if_pos rfl, if_pos (by simp [be_length])]
theorem fixr_kind (r : Rec) : (fixr r).kind = r.kind := by
  unfold fixr
  repeat (split; · rfl)
  rfl
theorem fixr_may {r : Rec} (h : may r = true) : may (fixr r) = true := by
  rcases may_kind h with ⟨h, v0, v1⟩ | h | h | h
  · unfold may fixr; simp [h, v0, v1]
  · unfold may fixr; simp [h]
  · unfold may fixr; simp [h]
  · unfold may fixr; simp [h]
theorem fixr_one {r : Rec} (h : may r = true) : one (fixr r) = one r := by
  rcases may_kind h with ⟨h, v0, v1⟩ | h | h | h <;> (unfold one fixr; simp [h])
theorem fixr_fixr (r : Rec) : fixr (fixr r) = fixr r := by
  by_cases h1 : r.kind = 1
  · simp [fixr, h1]
  · by_cases h2 : r.kind = 2
    · simp [fixr, h2]
    · by_cases h3 : r.kind = 3
      · simp [fixr, h3]
      · by_cases h4 : r.kind = 4
        · simp [fixr, h4]
        · simp [fixr, h1, h2, h3, h4]
theorem fixr_wide {r : Rec} (h : r.wide) : (fixr r).wide := by
  obtain ⟨k0, k1, t0, t1, v0, v1, e0, e1, i0, i1, n0, n1, s0, s1⟩ := h
  unfold fixr Hd0 En0 Sn0
  repeat' split
  all_goals constructor <;> simp_all
theorem fixr_small {r : Rec} (h : r.small) : (fixr r).small := by
  obtain ⟨h1, h2⟩ := h
  unfold fixr Hd0 En0 Sn0 Rec.small
  repeat' split
  all_goals simp_all
theorem one_len {r : Rec} (h : r.small) : 9 ≤ (one r).length ∧ (one r).length ≤ 77 := by
  obtain ⟨h1, h2⟩ := h
  unfold one
  repeat' split
  all_goals simp [be_length]
  all_goals omega
theorem ounframe_ok {b s : Bytes} {n : Int} (h : ounframe b = (s, n, 0)) : n = ((8 + s.length : Nat) : Int) ∧ 8 + s.length ≤ b.length ∧ s = (b.drop 8).take s.length := by
  unfold ounframe at h
  split at h
  · simp at h
  · rename_i h1
    split at h
    · simp at h
    · simp only [Prod.mk.injEq, and_true] at h
      obtain ⟨rfl, rfl⟩ := h
      have hl : ((b.drop 8).take (val (b.take 4))).length = val (b.take 4) := by
        rw [List.length_take, List.length_drop]; omega
      rw [hl]
      exact ⟨rfl, by omega, rfl⟩
theorem ounframe_nil : ounframe [] = ([], 0, 3) := unframe_short [] (.inl (by simp))
/-- what stands behind a frame that is whole does not matter -/
theorem ounframe_app (b more : Bytes) (h : 8 + val (b.take 4) ≤ b.length) : ounframe (b ++ more) = ounframe b := by
  have t4 : (b ++ more).take 4 = b.take 4 := List.take_append_of_le_length (by omega)
  have d4 : ((b ++ more).drop 4).take 4 = (b.drop 4).take 4 := by
    rw [List.drop_append_of_le_length (by omega), List.take_append_of_le_length (by rw [List.length_drop]; omega)]
  have d8 : ((b ++ more).drop 8).take (val (b.take 4)) = (b.drop 8).take (val (b.take 4)) := by
    rw [List.drop_append_of_le_length (by omega), List.take_append_of_le_length (by rw [List.length_drop]; omega)]
  unfold ounframe
  rw [t4, d4, d8, List.length_append]
  rw [if_neg (by omega), if_neg (show ¬ (b.length < 8 ∨ b.length - 8 < val (b.take 4)) by omega)]
def scanF : Nat → Bytes → List Rec × Nat
  | 0, _ => ([], 0)
  | f + 1, b => if (ounframe b).2.2 = 0 then (match orec (ounframe b).1 with
    | some r => (r :: (scanF f (b.drop (ounframe b).2.1.toNat)).1, (ounframe b).2.1.toNat + (scanF f (b.drop (ounframe b).2.1.toNat)).2)
    | none => ([], 0)) else ([], 0)
def scan (b : Bytes) : List Rec × Nat := scanF (b.length + 1) b
theorem scanF_eq : ∀ (f f' : Nat) (b : Bytes), b.length < f → b.length < f' → scanF f b = scanF f' b := by
  intro f
  induction f with
  | zero => intro f' b h; omega
  | succ f ih =>
    intro f' b h h'
    obtain ⟨f', rfl⟩ : ∃ k, f' = k + 1 := ⟨f' - 1, by omega⟩
    unfold scanF
    split
    · rename_i h0
      have hk := ounframe_ok (b := b) (s := (ounframe b).1) (n := (ounframe b).2.1) (by rw [← h0])
      have hl : (b.drop (ounframe b).2.1.toNat).length + 8 ≤ b.length := by rw [List.length_drop]; omega
      rw [ih f' (b.drop (ounframe b).2.1.toNat) (by omega) (by omega)]
    · rfl
theorem scan_step {b s : Bytes} {n : Nat} {r : Rec} (h : ounframe b = (s, (n : Int), 0)) (hr : orec s = some r) : scan b = (r :: (scan (b.drop n)).1, n + (scan (b.drop n)).2) := by
  have hk := ounframe_ok h
  have hl : (b.drop n).length + 8 ≤ b.length := by rw [List.length_drop]; omega
  have e : scan b = scanF (b.length + 1) b := rfl
  rw [e]
  unfold scanF
  rw [h]
  simp only [if_true, hr, Int.toNat_natCast]
  rw [scanF_eq b.length ((b.drop n).length + 1) (b.drop n) (by omega) (by omega)]
  rfl
theorem scan_stop {b : Bytes} (h : (ounframe b).2.2 ≠ 0 ∨ orec (ounframe b).1 = none) : scan b = ([], 0) := by
  unfold scan scanF
  rcases h with h | h
  · rw [if_neg h]
  · rw [h]
    split <;> rfl
theorem scan_nil : scan [] = ([], 0) := scan_stop (.inl (by rw [ounframe_nil]; simp))
theorem scan_put : ∀ (l : List Rec) (more : Bytes), (∀ r ∈ l, r.wide ∧ r.small) → scan (lput l ++ more) = (right l ++ (scan more).1, (lput l).length + (scan more).2)
  | [], more, _ => by simp [lput, right]
  | r :: l, more, h => by
    have ih := scan_put l more fun x hx => h x (List.mem_cons_of_mem _ hx)
    obtain ⟨hw, hs⟩ := h r List.mem_cons_self
    unfold lput right
    by_cases hm : may r = true
    · rw [if_pos hm, if_pos hm, List.append_assoc]
      have hl := one_len hs
      have h1 := ounframe_oframe (one r) (lput l ++ more) (by omega)
      rw [scan_step h1 (orec_one hm hw), drop_app _ _ _ (oframe_length _), ih]
      simp [oframe_length]
      omega
    · rw [if_neg hm, if_neg hm]
      exact ih
theorem scan_all {l : List Rec} (h : ∀ r ∈ l, r.wide ∧ r.small) : scan (lput l) = (right l, (lput l).length) := by
  have := scan_put l [] h
  rw [scan_nil] at this
  simpa using this
theorem lput_app (a b : List Rec) : lput (a ++ b) = lput a ++ lput b := by
  induction a with
  | nil => rfl
  | cons r a ih => simp [lput, ih]
theorem right_app (a b : List Rec) : right (a ++ b) = right a ++ right b := by
  induction a with
  | nil => rfl
  | cons r a ih =>
    simp only [List.cons_append, right, ih]
    split <;> simp
theorem right_put (l : List Rec) : lput (right l) = lput l := by
  induction l with
  | nil => rfl
  | cons r l ih =>
    simp only [right, lput]
    by_cases hm : may r = true
    · rw [if_pos hm, if_pos hm, lput, if_pos (fixr_may hm), fixr_one hm, ih]
    · rw [if_neg hm, if_neg hm, ih, List.nil_append]
theorem right_right (l : List Rec) : right (right l) = right l := by
  induction l with
  | nil => rfl
  | cons r l ih =>
    simp only [right]
    by_cases hm : may r = true
    · rw [if_pos hm, right, if_pos (fixr_may hm), fixr_fixr, ih]
    · rw [if_neg hm, ih]
theorem right_mem {l : List Rec} (h : ∀ r ∈ l, r.wide ∧ r.small) : ∀ r ∈ right l, may r = true ∧ fixr r = r ∧ r.wide ∧ r.small := by
  induction l with
  | nil => simp [right]
  | cons r l ih =>
    have ih := ih fun x hx => h x (List.mem_cons_of_mem _ hx)
    obtain ⟨hw, hs⟩ := h r List.mem_cons_self
    simp only [right]
    split
    · rename_i hm
      intro x hx
      rcases List.mem_cons.1 hx with rfl | hx
      · exact ⟨fixr_may hm, fixr_fixr r, fixr_wide hw, fixr_small hs⟩
      · exact ih x hx
    · exact ih
theorem right_len (l : List Rec) : (right l).length ≤ l.length := by
  induction l with
  | nil => simp [right]
  | cons r l ih =>
    simp only [right]
    split <;> simp <;> omega
theorem lput_len {l : List Rec} (h : ∀ r ∈ l, r.small) : (lput l).length ≤ 85 * l.length := by
  induction l with
  | nil => simp [lput]
  | cons r l ih =>
    have ih := ih fun x hx => h x (List.mem_cons_of_mem _ hx)
    have hs := one_len (h r List.mem_cons_self)
    simp only [lput]
    split
    · simp [oframe_length]; omega
    · simp; omega
theorem scan_cut : ∀ (l : List Rec) (k : Nat), (∀ r ∈ l, r.wide ∧ r.small) → k ≤ (lput l).length → ∃ j, j ≤ (right l).length ∧ (scan ((lput l).take k)).1 = (right l).take j ∧ (scan ((lput l).take k)).2 ≤ k ∧
    lput ((right l).take j) = (lput l).take (scan ((lput l).take k)).2 ∧ (k = (lput l).length → j = (right l).length)
  | [], k, _, hk => ⟨0, by simp [right], by simp [lput, scan_nil, right], by simp [lput, scan_nil], by simp [lput, right], by simp [right]⟩
  | r :: l, k, h, hk => by
    have hl : ∀ x ∈ l, x.wide ∧ x.small := fun x hx => h x (List.mem_cons_of_mem _ hx)
    obtain ⟨hw, hs⟩ := h r List.mem_cons_self
    by_cases hm : may r = true
    · have e1 : lput (r :: l) = oframe (one r) ++ lput l := by simp [lput, hm]
      have e2 : right (r :: l) = fixr r :: right l := by simp [right, hm]
      have ho := one_len hs
      have hf := oframe_length (one r)
      rw [e1, e2]
      rw [e1, List.length_append] at hk
      by_cases hkf : k < (oframe (one r)).length
      · have t1 : (oframe (one r) ++ lput l).take k = (oframe (one r)).take k := List.take_append_of_le_length (by omega)
        have s1 : scan ((oframe (one r)).take k) = ([], 0) := scan_stop (.inl (by rw [ounframe_cut (one r) k (by omega) (by omega)]; simp))
        rw [t1, s1]
        exact ⟨0, by simp, by simp, by simp, by simp [lput], fun hk2 => by rw [List.length_append] at hk2; omega⟩
      · obtain ⟨j, h1, h2, h3, h4, h5⟩ := scan_cut l (k - (oframe (one r)).length) hl (by omega)
        have t1 : (oframe (one r) ++ lput l).take k = oframe (one r) ++ (lput l).take (k - (oframe (one r)).length) := by
          rw [List.take_append, List.take_of_length_le (by omega)]
        have s1 := scan_step (ounframe_oframe (one r) ((lput l).take (k - (oframe (one r)).length)) (by omega)) (orec_one hm hw)
        rw [drop_app _ _ _ hf] at s1
        rw [t1, s1]
        refine ⟨j + 1, by simpa using h1, by simp [h2], by simp only; omega, ?_, fun hk2 => ?_⟩
        · simp only [List.take_succ_cons, lput, if_pos (fixr_may hm), fixr_one hm, h4]
          rw [← hf, List.take_length_add_append]
        · rw [List.length_append] at hk2
          have := h5 (by omega)
          simp [this]
    · have e1 : lput (r :: l) = lput l := by simp [lput, hm]
      have e2 : right (r :: l) = right l := by simp [right, hm]
      rw [e1, e2]
      rw [e1] at hk
      exact scan_cut l k hl hk
/-- with one byte of a frame turned, behind its length, none of it is read, nor what stands behind -/
theorem scan_turned {l1 l2 : List Rec} {r : Rec} {p : Nat} {x y : UInt8} (h1 : ∀ q ∈ l1, q.wide ∧ q.small) (hm : may r = true) (hs : r.small) (hp : 4 ≤ p) (hy : (oframe (one r))[p]? = some y) (hne : x ≠ y) :
    scan ((lput (l1 ++ r :: l2)).set ((lput l1).length + p) x) = (right l1, (lput l1).length) := by
  have hpl := (List.getElem?_eq_some_iff.1 hy).1
  have ho := one_len hs
  have hf := oframe_length (one r)
  have e1 : lput (l1 ++ r :: l2) = lput l1 ++ (oframe (one r) ++ lput l2) := by rw [lput_app]; simp [lput, hm]
  have e2 : (lput (l1 ++ r :: l2)).set ((lput l1).length + p) x = lput l1 ++ ((oframe (one r)).set p x ++ lput l2) := by
    rw [e1, set_app_right _ _ _ _ (by omega), Nat.add_sub_cancel_left, set_app_left _ _ _ _ hpl]
  have h5 := ounframe_set (one r) p x y (by omega) hp hy hne
  have t4 : ((oframe (one r)).set p x).take 4 = be 4 (one r).length := by
    have e0 : oframe (one r) = be 4 (one r).length ++ (be 4 (Crc.sum (one r)) ++ one r) := by simp [oframe]
    rw [e0, set_app_right _ _ _ _ (by rw [be_length]; exact hp)]
    exact take_app _ _ _ (be_length _ _)
  have h6 : ounframe ((oframe (one r)).set p x ++ lput l2) = ([], 0, 2) := by
    rw [ounframe_app _ _ (by rw [t4, val_be, Nat.mod_eq_of_lt (by omega), List.length_set]; omega)]
    exact h5
  rw [e2, scan_put l1 _ h1, scan_stop (.inl (by rw [h6]; simp))]
  simp
end Go.Proofs.Ytboncnlcomeahaa

