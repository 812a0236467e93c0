/- A part of the proof of 'StoreAll'. -/
import Derived.Test.YtlblgopfdadalaaS3
import Derived.Test.YtlblgopfdadalaaS2
import Derived.Test.YtlblgopfdadalaaS1
import Derived.Test.YtlblgopfdadalaaRows
import Derived.ProofKit
import Derived.OpenShut
import Derived.ShutString
import Derived.ChangeOld
import Derived.Below
namespace Go.Proofs.Ytlblgopfdadalaa
set_option linter.unusedVariables false
set_option linter.unusedSimpArgs false
set_option linter.unnecessarySimpa false
set_option maxRecDepth 100000
open Go.RowKit
structure Hd where
  term : Int
  vote : Int
structure En where
  term : Int
  data : Bytes
structure Sn where
  index : Int
  term : Int
  state : Bytes
structure Rec where
  kind : Int
  hard : Hd
  ent : En
  index : Int
  snap : Sn
def Hd0 : Hd := ⟨0, 0⟩
def En0 : En := ⟨0, []⟩
def Sn0 : Sn := ⟨0, 0, []⟩
def may (r : Rec) : Bool := if r.kind = 1 then decide (0 ≤ r.hard.vote) && decide (r.hard.vote ≤ 7) else decide (1 < r.kind) && decide (r.kind ≤ 4)
structure Rec.wide (r : Rec) : Prop where
  k0 : -9223372036854775808 ≤ r.kind
  k1 : r.kind ≤ 9223372036854775807
  t0 : 0 ≤ r.hard.term
  t1 : r.hard.term ≤ 18446744073709551615
  v0 : -9223372036854775808 ≤ r.hard.vote
  v1 : r.hard.vote ≤ 9223372036854775807
  e0 : 0 ≤ r.ent.term
  e1 : r.ent.term ≤ 18446744073709551615
  i0 : 0 ≤ r.index
  i1 : r.index ≤ 18446744073709551615
  n0 : 0 ≤ r.snap.index
  n1 : r.snap.index ≤ 18446744073709551615
  s0 : 0 ≤ r.snap.term
  s1 : r.snap.term ≤ 18446744073709551615
def Rec.small (r : Rec) : Prop := r.ent.data.length ≤ 60 ∧ r.snap.state.length ≤ 60
def one (r : Rec) : Bytes :=
  UInt8.ofNat r.kind.toNat :: (if r.kind = 1 then be 8 r.hard.term.toNat ++ be 1 r.hard.vote.toNat else if r.kind = 2 then be 8 r.ent.term.toNat ++ r.ent.data
    else if r.kind = 3 then be 8 r.index.toNat else be 8 r.snap.index.toNat ++ (be 8 r.snap.term.toNat ++ r.snap.state))
def lput : List Rec → Bytes
  | [] => []
  | r :: l => (if may r = true then oframe (one r) else []) ++ lput l
def fixr (r : Rec) : Rec :=
  if r.kind = 1 then ⟨r.kind, r.hard, En0, 0, Sn0⟩ else if r.kind = 2 then ⟨r.kind, Hd0, r.ent, 0, Sn0⟩ else if r.kind = 3 then ⟨r.kind, Hd0, En0, r.index, Sn0⟩
  else if r.kind = 4 then ⟨r.kind, Hd0, En0, 0, r.snap⟩ else ⟨r.kind, Hd0, En0, 0, Sn0⟩
def right : List Rec → List Rec
  | [] => []
  | r :: l => if may r = true then fixr r :: right l else right l
def orec (b : Bytes) : Option Rec :=
  if b.length < 9 then none
  else if val (b.take 1) = 1 then (if (b.drop 9).length = 1 ∧ val (b.drop 9) ≤ 7 then some ⟨1, ⟨val ((b.drop 1).take 8), val (b.drop 9)⟩, En0, 0, Sn0⟩ else none)
  else if val (b.take 1) = 2 then some ⟨2, Hd0, ⟨val ((b.drop 1).take 8), b.drop 9⟩, 0, Sn0⟩
  else if val (b.take 1) = 3 then (if (b.drop 9).length = 0 then some ⟨3, Hd0, En0, val ((b.drop 1).take 8), Sn0⟩ else none)
  else if val (b.take 1) = 4 then (if 8 ≤ (b.drop 9).length then some ⟨4, Hd0, En0, 0, ⟨val ((b.drop 1).take 8), val ((b.drop 9).take 8), (b.drop 9).drop 8⟩⟩ else none)
  else none
theorem val_one (x : UInt8) : val [x] = x.toNat := by simp [val]
theorem be8 {t : Int} (h0 : 0 ≤ t) (h1 : t ≤ 18446744073709551615) : ((val (be 8 t.toNat) : Nat) : Int) = t := by
  rw [val_be, Nat.mod_eq_of_lt (by omega)]
  omega
theorem may_kind {r : Rec} (h : may r = true) : r.kind = 1 ∧ 0 ≤ r.hard.vote ∧ r.hard.vote ≤ 7 ∨ r.kind = 2 ∨ r.kind = 3 ∨ r.kind = 4 := by
  unfold may at h
  split at h
  · simp at h
    omega
  · simp at h
    omega
theorem orec_one {r : Rec} (hm : may r = true) (hw : r.wide) : orec (one r) = some (fixr r) := by
  obtain ⟨kind, ⟨ht, hv⟩, ⟨et, ed⟩, ix, ⟨si, st, ss⟩⟩ := r
  obtain ⟨-, -, t0, t1, -, -, e0, e1, i0, i1, n0, n1, s0, s1⟩ := hw
  simp only at t0 t1 e0 e1 i0 i1 n0 n1 s0 s1
  rcases may_kind hm with ⟨h, v0, v1⟩ | h | h | h <;> simp only at h <;> subst h
  · simp only at v0 v1
    have b8 := be8 t0 t1
    have e8 := be_length 8 ht.toNat
    have b1 : val (be 1 hv.toNat) = hv.toNat := by rw [val_be]; exact Nat.mod_eq_of_lt (by omega)
    unfold orec one fixr
    simp only [if_true]
    have d1 : (UInt8.ofNat (1 : Int).toNat :: (be 8 ht.toNat ++ be 1 hv.toNat)).drop 1 = be 8 ht.toNat ++ be 1 hv.toNat := rfl
    have d9 : (UInt8.ofNat (1 : Int).toNat :: (be 8 ht.toNat ++ be 1 hv.toNat)).drop 9 = be 1 hv.toNat := by
      rw [show 9 = 1 + 8 from rfl, ← List.drop_drop, d1]; exact drop_app _ _ _ e8
    have k1 : val ((UInt8.ofNat (1 : Int).toNat :: (be 8 ht.toNat ++ be 1 hv.toNat)).take 1) = 1 := by simp [val]
    rw [d1, d9, k1, take_app _ _ _ e8, b8, b1, if_neg (by simp [be_length]), if_pos rfl, if_pos ⟨be_length _ _, by omega⟩]
    simp
    omega
  · have b8 := be8 e0 e1
    have e8 := be_length 8 et.toNat
    unfold orec one fixr
    simp only [if_true, if_false, show ¬ ((2 : Int) = 1) by decide]
    have d1 : (UInt8.ofNat (2 : Int).toNat :: (be 8 et.toNat ++ ed)).drop 1 = be 8 et.toNat ++ ed := rfl
    have d9 : (UInt8.ofNat (2 : Int).toNat :: (be 8 et.toNat ++ ed)).drop 9 = ed := by
      rw [show 9 = 1 + 8 from rfl, ← List.drop_drop, d1]; exact drop_app _ _ _ e8
    have k1 : val ((UInt8.ofNat (2 : Int).toNat :: (be 8 et.toNat ++ ed)).take 1) = 2 := by simp [val]
    rw [d1, d9, k1, take_app _ _ _ e8, b8, if_neg (by simp [be_length] <;> omega), if_neg (by decide), if_pos rfl]
  · have b8 := be8 i0 i1
    have e8 := be_length 8 ix.toNat
    unfold orec one fixr
    simp only [if_true, if_false, show ¬ ((3 : Int) = 1) by decide, show ¬ ((3 : Int) = 2) by decide]
    have d1 : (UInt8.ofNat (3 : Int).toNat :: be 8 ix.toNat).drop 1 = be 8 ix.toNat := rfl
    have d9 : (UInt8.ofNat (3 : Int).toNat :: be 8 ix.toNat).drop 9 = [] := by
      rw [show 9 = 1 + 8 from rfl, ← List.drop_drop, d1]; exact List.drop_eq_nil_of_le (by omega)
    have k1 : val ((UInt8.ofNat (3 : Int).toNat :: be 8 ix.toNat).take 1) = 3 := by simp [val]
    rw [d1, d9, k1, List.take_of_length_le (by omega : (be 8 ix.toNat).length ≤ 8), b8, if_neg (by simp [be_length]), if_neg (by decide), if_neg (by decide), if_pos rfl, if_pos (by simp)]
  · have b8 := be8 n0 n1
    have b9 := be8 s0 s1
    have e8 := be_length 8 si.toNat
    have e9 := be_length 8 st.toNat
    unfold orec one fixr
    simp only [if_true, if_false, show ¬ ((4 : Int) = 1) by decide, show ¬ ((4 : Int) = 2) by decide, show ¬ ((4 : Int) = 3) by decide]
    have d1 : (UInt8.ofNat (4 : Int).toNat :: (be 8 si.toNat ++ (be 8 st.toNat ++ ss))).drop 1 = be 8 si.toNat ++ (be 8 st.toNat ++ ss) := rfl
    have d9 : (UInt8.ofNat (4 : Int).toNat :: (be 8 si.toNat ++ (be 8 st.toNat ++ ss))).drop 9 = be 8 st.toNat ++ ss := by
      rw [show 9 = 1 + 8 from rfl, ← List.drop_drop, d1]; exact drop_app _ _ _ e8
    have k1 : val ((UInt8.ofNat (4 : Int).toNat :: (be 8 si.toNat ++ (be 8 st.toNat ++ ss))).take 1) = 4 := by simp [val]
    rw [d1, d9, k1, take_app _ _ _ e8, b8, take_app _ _ _ e9, b9, drop_app _ _ _ e9, if_neg (by simp [be_length] <;> omega), if_neg (by decide), if_neg (by decide), if_neg (by decide), if_pos rfl, if_pos (by simp [be_length])]
theorem fixr_may {r : Rec} (h : may r = true) : may (fixr r) = true := by
  rcases may_kind h with ⟨h, v0, v1⟩ | h | h | h
  · unfold may fixr; simp [h, v0, v1]
  · unfold may fixr; simp [h]
  · unfold may fixr; simp [h]
  · unfold may fixr; simp [h]
theorem fixr_one {r : Rec} (h : may r = true) : one (fixr r) = one r := by
  rcases may_kind h with ⟨h, v0, v1⟩ | h | h | h <;> (unfold one fixr; simp [h])
theorem fixr_fixr (r : Rec) : fixr (fixr r) = fixr r := by
  by_cases h1 : r.kind = 1
  · simp [fixr, h1]
  · by_cases h2 : r.kind = 2
    · simp [fixr, h2]
    · by_cases h3 : r.kind = 3
      · simp [fixr, h3]
      · by_cases h4 : r.kind = 4
        · simp [fixr, h4]
        · simp [fixr, h1, h2, h3, h4]
theorem fixr_wide {r : Rec} (h : r.wide) : (fixr r).wide := by
  obtain ⟨k0, k1, t0, t1, v0, v1, e0, e1, i0, i1, n0, n1, s0, s1⟩ := h
  unfold fixr Hd0 En0 Sn0
  repeat' split
  all_goals constructor <;> simp_all
theorem fixr_small {r : Rec} (h : r.small) : (fixr r).small := by
  obtain ⟨h1, h2⟩ := h
  unfold fixr Hd0 En0 Sn0 Rec.small
  repeat' split
  all_goals simp_all
theorem one_len {r : Rec} (h : r.small) : 9 ≤ (one r).length ∧ (one r).length ≤ 77 := by
  obtain ⟨h1, h2⟩ := h
  unfold one
  repeat' split
  all_goals simp [be_length]
  all_goals omega
theorem ounframe_ok {b s : Bytes} {n : Int} (h : ounframe b = (s, n, 0)) : n = ((8 + s.length : Nat) : Int) ∧ 8 + s.length ≤ b.length ∧ s = (b.drop 8).take s.length := by
  unfold ounframe at h
  split at h
  · simp at h
  · rename_i h1
    split at h
    · simp at h
    · simp only [Prod.mk.injEq, and_true] at h
      obtain ⟨rfl, rfl⟩ := h
      have hl : ((b.drop 8).take (val (b.take 4))).length = val (b.take 4) := by
        rw [List.length_take, List.length_drop]; omega
      rw [hl]
      exact ⟨rfl, by omega, rfl⟩
theorem ounframe_nil : ounframe [] = ([], 0, 3) := unframe_short [] (.inl (by simp))
def scanF : Nat → Bytes → List Rec × Nat
  | 0, _ => ([], 0)
  | f + 1, b => if (ounframe b).2.2 = 0 then (match orec (ounframe b).1 with
    | some r => (r :: (scanF f (b.drop (ounframe b).2.1.toNat)).1, (ounframe b).2.1.toNat + (scanF f (b.drop (ounframe b).2.1.toNat)).2)
    | none => ([], 0)) else ([], 0)
def scan (b : Bytes) : List Rec × Nat := scanF (b.length + 1) b
theorem scanF_eq : ∀ (f f' : Nat) (b : Bytes), b.length < f → b.length < f' → scanF f b = scanF f' b := by
  intro f
  induction f with
  | zero => intro f' b h; omega
  | succ f ih =>
    intro f' b h h'
    obtain ⟨f', rfl⟩ : ∃ k, f' = k + 1 := ⟨f' - 1, by omega⟩
    unfold scanF
    split
    · rename_i h0
      have hk := ounframe_ok (b := b) (s := (ounframe b).1) (n := (ounframe b).2.1) (by rw [← h0])
      have hl : (b.drop (ounframe b).2.1.toNat).length + 8 ≤ b.length := by rw [List.length_drop]; omega
      rw [ih f' (b.drop (ounframe b).2.1.toNat) (by omega) (by omega)]
    · rfl
theorem scan_step {b s : Bytes} {n : Nat} {r : Rec} (h : ounframe b = (s, (n : Int), 0)) (hr : orec s = some r) : scan b = (r :: (scan (b.drop n)).1, n + (scan (b.drop n)).2) := by
  have hk := ounframe_ok h
  have hl : (b.drop n).length + 8 ≤ b.length := by rw [List.length_drop]; omega
  have e : scan b = scanF (b.length + 1) b := rfl
  rw [e]
  unfold scanF
  rw [h]
  simp only [if_true, hr, Int.toNat_natCast]
  rw [scanF_eq b.length ((b.drop n).length + 1) (b.drop n) (by omega) (by omega)]
  rfl
theorem scan_stop {b : Bytes} (h : (ounframe b).2.2 ≠ 0 ∨ orec (ounframe b).1 = none) : scan b = ([], 0) := by
  unfold scan scanF
  rcases h with h | h
  · rw [if_neg h]
  · rw [h]
    split <;> rfl
theorem scan_nil : scan [] = ([], 0) := scan_stop (.inl (by rw [ounframe_nil]; simp))
theorem scan_put : ∀ (l : List Rec) (more : Bytes), (∀ r ∈ l, r.wide ∧ r.small) → scan (lput l ++ more) = (right l ++ (scan more).1, (lput l).length + (scan more).2)
  | [], more, _ => by simp [lput, right]
  | r :: l, more, h => by
    have ih := scan_put l more fun x hx => h x (List.mem_cons_of_mem _ hx)
    obtain ⟨hw, hs⟩ := h r List.mem_cons_self
    unfold lput right
    by_cases hm : may r = true
    · rw [if_pos hm, if_pos hm, List.append_assoc]
      have hl := one_len hs
      have h1 := ounframe_oframe (one r) (lput l ++ more) (by omega)
      rw [scan_step h1 (orec_one hm hw), drop_app _ _ _ (oframe_length _), ih]
      simp [oframe_length]
      omega
    · rw [if_neg hm, if_neg hm]
      exact ih
theorem lput_app (a b : List Rec) : lput (a ++ b) = lput a ++ lput b := by
  induction a with
  | nil => rfl
  | cons r a ih => simp [lput, ih]
theorem right_put (l : List Rec) : lput (right l) = lput l := by
  induction l with
  | nil => rfl
  | cons r l ih =>
    simp only [right, lput]
    by_cases hm : may r = true
    · rw [if_pos hm, if_pos hm, lput, if_pos (fixr_may hm), fixr_one hm, ih]
    · rw [if_neg hm, if_neg hm, ih, List.nil_append]
theorem right_mem {l : List Rec} (h : ∀ r ∈ l, r.wide ∧ r.small) : ∀ r ∈ right l, may r = true ∧ fixr r = r ∧ r.wide ∧ r.small := by
  induction l with
  | nil => simp [right]
  | cons r l ih =>
    have ih := ih fun x hx => h x (List.mem_cons_of_mem _ hx)
    obtain ⟨hw, hs⟩ := h r List.mem_cons_self
    simp only [right]
    split
    · rename_i hm
      intro x hx
      rcases List.mem_cons.1 hx with rfl | hx
      · exact ⟨fixr_may hm, fixr_fixr r, fixr_wide hw, fixr_small hs⟩
      · exact ih x hx
    · exact ih
theorem right_len (l : List Rec) : (right l).length ≤ l.length := by
  induction l with
  | nil => simp [right]
  | cons r l ih =>
    simp only [right]
    split <;> simp <;> omega
theorem lput_len {l : List Rec} (h : ∀ r ∈ l, r.small) : (lput l).length ≤ 85 * l.length := by
  induction l with
  | nil => simp [lput]
  | cons r l ih =>
    have ih := ih fun x hx => h x (List.mem_cons_of_mem _ hx)
    have hs := one_len (h r List.mem_cons_self)
    simp only [lput]
    split
    · simp [oframe_length]; omega
    · simp; omega
theorem scan_cut : ∀ (l : List Rec) (k : Nat), (∀ r ∈ l, r.wide ∧ r.small) → k ≤ (lput l).length → ∃ j, j ≤ (right l).length ∧ (scan ((lput l).take k)).1 = (right l).take j ∧ (scan ((lput l).take k)).2 ≤ k ∧
    lput ((right l).take j) = (lput l).take (scan ((lput l).take k)).2 ∧ (k = (lput l).length → j = (right l).length)
  | [], k, _, hk => ⟨0, by simp [right], by simp [lput, scan_nil, right], by simp [lput, scan_nil], by simp [lput, right], by simp [right]⟩
  | r :: l, k, h, hk => by
    have hl : ∀ x ∈ l, x.wide ∧ x.small := fun x hx => h x (List.mem_cons_of_mem _ hx)
    obtain ⟨hw, hs⟩ := h r List.mem_cons_self
    by_cases hm : may r = true
    · have e1 : lput (r :: l) = oframe (one r) ++ lput l := by simp [lput, hm]
      have e2 : right (r :: l) = fixr r :: right l := by simp [right, hm]
      have ho := one_len hs
      have hf := oframe_length (one r)
      rw [e1, e2]
      rw [e1, List.length_append] at hk
      by_cases hkf : k < (oframe (one r)).length
      · have t1 : (oframe (one r) ++ lput l).take k = (oframe (one r)).take k := List.take_append_of_le_length (by omega)
        have s1 : scan ((oframe (one r)).take k) = ([], 0) := scan_stop (.inl (by rw [ounframe_cut (one r) k (by omega) (by omega)]; simp))
        rw [t1, s1]
        exact ⟨0, by simp, by simp, by simp, by simp [lput], fun hk2 => by rw [List.length_append] at hk2; omega⟩
      · obtain ⟨j, h1, h2, h3, h4, h5⟩ := scan_cut l (k - (oframe (one r)).length) hl (by omega)
        have t1 : (oframe (one r) ++ lput l).take k = oframe (one r) ++ (lput l).take (k - (oframe (one r)).length) := by
          rw [List.take_append, List.take_of_length_le (by omega)]
        have s1 := scan_step (ounframe_oframe (one r) ((lput l).take (k - (oframe (one r)).length)) (by omega)) (orec_one hm hw)
        rw [drop_app _ _ _ hf] at s1
        rw [t1, s1]
        refine ⟨j + 1, by simpa using h1, by simp [h2], by simp only; omega, ?_, fun hk2 => ?_⟩
        · simp only [List.take_succ_cons, lput, if_pos (fixr_may hm), fixr_one hm, h4]
          rw [← hf, List.take_length_add_append]
        · rw [List.length_append] at hk2
          have := h5 (by omega)
          simp [this]
    · have e1 : lput (r :: l) = lput l := by simp [lput, hm]
      have e2 : right (r :: l) = right l := by simp [right, hm]
      rw [e1, e2]
      rw [e1] at hk
      exact scan_cut l k hl hk
end Go.Proofs.Ytlblgopfdadalaa
namespace Go.Proofs.Ytlblgopfdadalaa
set_option linter.unusedVariables false
set_option linter.unusedSimpArgs false
set_option linter.unnecessarySimpa false
set_option maxRecDepth 100000
open Go.RowKit
structure Kp where
  hard : Hd
  snap : Sn
  ents : List En
def Kp0 : Kp := ⟨Hd0, Sn0, []⟩
def kcutN (k : Kp) (i : Int) : Nat := if i ≤ k.snap.index then 0 else min k.ents.length (i - k.snap.index - 1).toNat
def ksnapE (k : Kp) (s : Sn) : List En :=
  if s.index - k.snap.index ≤ k.ents.length ∧ (k.ents[(s.index - k.snap.index).toNat - 1]?).any (fun e => decide (e.term = s.term)) = true then k.ents.drop (s.index - k.snap.index).toNat else []
def ksnap (k : Kp) (s : Sn) : Kp := if s.index ≤ k.snap.index then k else ⟨k.hard, s, ksnapE k s⟩
def kone (k : Kp) (r : Rec) : Kp :=
  if r.kind = 1 then ⟨r.hard, k.snap, k.ents⟩ else if r.kind = 2 then ⟨k.hard, k.snap, k.ents ++ [r.ent]⟩
  else if r.kind = 3 then ⟨k.hard, k.snap, k.ents.take (kcutN k r.index)⟩ else if r.kind = 4 then ksnap k r.snap else k
def kfold (k : Kp) (l : List Rec) : Kp := l.foldl kone k
def rHard (h : Hd) : Rec := ⟨1, h, En0, 0, Sn0⟩
def rSnap (s : Sn) : Rec := ⟨4, Hd0, En0, 0, s⟩
def rEnt (e : En) : Rec := ⟨2, Hd0, e, 0, Sn0⟩
def krecs (k : Kp) : List Rec := rHard k.hard :: ((if k.snap.index = 0 then [] else [rSnap k.snap]) ++ k.ents.map rEnt)
structure Kp.wide (k : Kp) : Prop where
  t0 : 0 ≤ k.hard.term
  t1 : k.hard.term ≤ 18446744073709551615
  v0 : -9223372036854775808 ≤ k.hard.vote
  v1 : k.hard.vote ≤ 9223372036854775807
  n0 : 0 ≤ k.snap.index
  n1 : k.snap.index ≤ 18446744073709551615
  s0 : 0 ≤ k.snap.term
  s1 : k.snap.term ≤ 18446744073709551615
theorem Kp0.wide_ : Kp0.wide := by constructor <;> simp [Kp0, Hd0, Sn0]
theorem kfold_cons (k : Kp) (r : Rec) (l : List Rec) : kfold k (r :: l) = kfold (kone k r) l := rfl
theorem kfold_app (k : Kp) (l m : List Rec) : kfold k (l ++ m) = kfold (kfold k l) m := List.foldl_append
theorem kfold_snoc (k : Kp) (l : List Rec) (r : Rec) : kfold k (l ++ [r]) = kone (kfold k l) r := by rw [kfold_app]; rfl
theorem kone_hard (k : Kp) (h : Hd) : kone k (rHard h) = ⟨h, k.snap, k.ents⟩ := rfl
theorem kone_ent (k : Kp) (e : En) : kone k (rEnt e) = ⟨k.hard, k.snap, k.ents ++ [e]⟩ := rfl
theorem kfold_ents (k : Kp) : ∀ l : List En, kfold k (l.map rEnt) = ⟨k.hard, k.snap, k.ents ++ l⟩
  | [] => by simp [kfold]
  | e :: l => by
    rw [List.map_cons, kfold_cons, kone_ent, kfold_ents]
    simp
/-- what records come to is sound: a snapshot without number is none -/
def Kp.sound (k : Kp) : Prop := 0 ≤ k.snap.index ∧ (k.snap.index = 0 → k.snap = Sn0)
theorem Kp0.sound_ : Kp0.sound := ⟨by simp [Kp0, Sn0], fun _ => rfl⟩
theorem Kp.sound.one {k : Kp} (h : k.sound) (r : Rec) : (kone k r).sound := by
  unfold kone
  split
  · exact h
  · split
    · exact h
    · split
      · exact h
      · split
        · unfold ksnap
          split
          · exact h
          · rename_i hn
            have := h.1
            exact ⟨by show 0 ≤ r.snap.index; omega, fun h0 => by change r.snap.index = 0 at h0; omega⟩
        · exact h
theorem Kp.sound.fold : ∀ (l : List Rec) {k : Kp}, k.sound → (kfold k l).sound
  | [], _, h => h
  | r :: l, _, h => Kp.sound.fold l (h.one r)
/-- the records of what is known say the same -/
theorem kfold_recs {k : Kp} (h : k.sound) : kfold Kp0 (krecs k) = k := by
  obtain ⟨hd, sn, es⟩ := k
  unfold krecs
  rw [kfold_cons, kone_hard, kfold_app, kfold_ents]
  by_cases h0 : sn.index = 0
  · have hs : sn = Sn0 := h.2 h0
    rw [if_pos h0, hs]
    rfl
  · have hp : 0 ≤ sn.index := h.1
    rw [if_neg h0]
    have : kfold ⟨hd, Kp0.snap, Kp0.ents⟩ [rSnap sn] = ⟨hd, sn, []⟩ := by
      show ksnap _ _ = _
      unfold ksnap
      rw [if_neg (by show ¬ sn.index ≤ (0 : Int); omega)]
      have : ksnapE ⟨hd, Kp0.snap, Kp0.ents⟩ sn = [] := by
        unfold ksnapE
        rw [if_neg]
        rintro ⟨h1, -⟩
        simp [Kp0, Sn0] at h1
        omega
      show (⟨hd, sn, ksnapE ⟨hd, Kp0.snap, Kp0.ents⟩ sn⟩ : Kp) = _
      rw [this]
    show (⟨(kfold ⟨hd, Kp0.snap, Kp0.ents⟩ [rSnap sn]).hard, (kfold ⟨hd, Kp0.snap, Kp0.ents⟩ [rSnap sn]).snap, (kfold ⟨hd, Kp0.snap, Kp0.ents⟩ [rSnap sn]).ents ++ es⟩ : Kp) = _
    rw [this]
    rfl
/-! sizes -/
structure Kp.small (k : Kp) (n : Nat) : Prop where
  len : k.ents.length ≤ n
  data : ∀ e ∈ k.ents, e.data.length ≤ 60
  state : k.snap.state.length ≤ 60
theorem Kp0.small_ : Kp0.small 0 := ⟨by simp [Kp0], by simp [Kp0], by simp [Kp0, Sn0]⟩
theorem Kp.small.mono {k : Kp} {m n : Nat} (h : k.small m) (hm : m ≤ n) : k.small n := ⟨Nat.le_trans h.len hm, h.data, h.state⟩
theorem Kp.small.one {k : Kp} {n : Nat} (h : k.small n) {r : Rec} (hr : r.small) : (kone k r).small (n + 1) := by
  unfold kone
  split
  · exact ⟨Nat.le_succ_of_le h.len, h.data, h.state⟩
  · split
    · refine ⟨by simpa using h.len, fun e he => ?_, h.state⟩
      rcases List.mem_append.1 he with he | he
      · exact h.data e he
      · rw [List.mem_singleton.1 he]; exact hr.1
    · split
      · exact ⟨Nat.le_succ_of_le (by simp only [List.length_take]; have := h.len; omega), fun e he => h.data e (List.mem_of_mem_take he), h.state⟩
      · split
        · unfold ksnap
          split
          · exact h.mono (Nat.le_succ n)
          · refine ⟨?_, fun e he => ?_, hr.2⟩
            · unfold ksnapE
              split
              · simp only [List.length_drop]; have := h.len; omega
              · simp
            · unfold ksnapE at he
              simp only at he
              split at he
              · exact h.data e (List.mem_of_mem_drop he)
              · cases he
        · exact h.mono (Nat.le_succ n)
theorem Kp.small.fold : ∀ (l : List Rec) {k : Kp} {n : Nat}, k.small n → (∀ r ∈ l, r.small) → (kfold k l).small (n + l.length)
  | [], _, _, h, _ => h
  | r :: l, k, n, h, hr => by
    have := Kp.small.fold l (h.one (hr r List.mem_cons_self)) (fun q hq => hr q (List.mem_cons_of_mem _ hq))
    rw [kfold_cons, List.length_cons, show n + (l.length + 1) = n + 1 + l.length by omega]
    exact this
theorem Kp.wide.one {k : Kp} (h : k.wide) {r : Rec} (hr : r.wide) : (kone k r).wide := by
  unfold kone
  split
  · exact ⟨hr.t0, hr.t1, hr.v0, hr.v1, h.n0, h.n1, h.s0, h.s1⟩
  · split
    · exact ⟨h.t0, h.t1, h.v0, h.v1, h.n0, h.n1, h.s0, h.s1⟩
    · split
      · exact ⟨h.t0, h.t1, h.v0, h.v1, h.n0, h.n1, h.s0, h.s1⟩
      · split
        · unfold ksnap
          split
          · exact h
          · exact ⟨h.t0, h.t1, h.v0, h.v1, hr.n0, hr.n1, hr.s0, hr.s1⟩
        · exact h
theorem Kp.wide.fold : ∀ (l : List Rec) {k : Kp}, k.wide → (∀ r ∈ l, r.wide) → (kfold k l).wide
  | [], _, h, _ => h
  | r :: l, _, h, hr => Kp.wide.fold l (h.one (hr r List.mem_cons_self)) fun q hq => hr q (List.mem_cons_of_mem _ hq)
end Go.Proofs.Ytlblgopfdadalaa
namespace Go.Proofs.Ytlblgopfdadalaa
set_option linter.unusedVariables false
set_option linter.unusedSimpArgs false
set_option linter.unnecessarySimpa false
set_option maxRecDepth 100000
open Go.RowKit
/-- all blocks but those are as they were -/
structure Chg (S : List Nat) (w w' : World) : Prop where
  os : w'.os = w.os
  tape : w'.tape = w.tape
  output : w'.output = w.output
  size : w.heap.size ≤ w'.heap.size
  block : ∀ k, k < w.heap.size → k ∉ S → w'.heap[k]? = w.heap[k]?
theorem Ext.chg {w w' : World} (h : Ext w w') (S : List Nat) : Chg S w w' := ⟨h.os, h.tape, h.output, h.size, fun k hk _ => h.block k hk⟩
theorem Chg.refl (S : List Nat) (w : World) : Chg S w w := ⟨rfl, rfl, rfl, Nat.le_refl _, fun _ _ _ => rfl⟩
theorem Chg.trans {S : List Nat} {a b c : World} (h : Chg S a b) (k : Chg S b c) : Chg S a c :=
  ⟨k.os.trans h.os, k.tape.trans h.tape, k.output.trans h.output, Nat.le_trans h.size k.size, fun i hi hn => (k.block i (Nat.lt_of_lt_of_le hi h.size) hn).trans (h.block i hi hn)⟩
theorem Chg.mono {S T : List Nat} {a b : World} (h : Chg S a b) (hs : ∀ k, k ∈ S → k ∈ T) : Chg T a b :=
  ⟨h.os, h.tape, h.output, h.size, fun i hi hn => h.block i hi fun hm => hn (hs i hm)⟩
theorem Chg.ext {S : List Nat} {a b : World} (h : Chg S a b) (hs : ∀ k, k ∈ S → a.heap.size ≤ k) : Ext a b :=
  ⟨h.os, h.tape, h.output, h.size, fun i hi => h.block i hi fun hm => by have := hs i hm; omega⟩
/-- new blocks that are written later are no loss -/
theorem Ext.then_ {S : List Nat} {a b c : World} (h : Ext a b) (k : Chg S b c) (hs : ∀ i, i ∈ S → a.heap.size ≤ i) : Ext a c :=
  ⟨k.os.trans h.os, k.tape.trans h.tape, k.output.trans h.output, Nat.le_trans h.size k.size, fun i hi => (k.block i (Nat.lt_of_lt_of_le hi h.size) fun hm => by have := hs i hm; omega).trans (h.block i hi)⟩
theorem Chg.drew {S : List Nat} {a b : World} (h : Chg S a b) : Chg S a b.drew := ⟨h.os, h.tape, h.output, h.size, h.block⟩
theorem Chg.drewN {S : List Nat} {a b : World} (h : Chg S a b) (n : Nat) : Chg S a (b.drewN n) := ⟨h.os, h.tape, h.output, h.size, h.block⟩
theorem Chg.alloc {S : List Nat} {a b : World} (h : Chg S a b) (o : Obj) : Chg S a (b.alloc o) := h.trans (((Ext.rfl' b).alloc' o).chg S)
theorem Chg.set {S : List Nat} {a b : World} (h : Chg S a b) {p : Addr} (hp : p.block ∈ S) (u : Value) : Chg S a (b.setCell p u) :=
  h.trans ⟨rfl, rfl, rfl, by simp [World.setCell], fun k _ hn => by
    have hne : k ≠ p.block := fun e => hn (e ▸ hp)
    exact Below.heap_setCell b p u k hne⟩
theorem Chg.cell {S : List Nat} {w w' : World} (h : Chg S w w') {p : Addr} (hp : p.block < w.heap.size) (hn : p.block ∉ S) : w'.cell? p = w.cell? p :=
  World.cell?_of_block (h.block _ hp hn)
theorem Blk.chg {S : List Nat} {w w' : World} {g : Nat} {t : TypeId} {cs : Array Value} (h : Blk w g t cs) (hc : Chg S w w') (hn : g ∉ S) : Blk w' g t cs := (hc.block g h.lt hn).trans h
theorem Reads.chg {S : List Nat} {w w' : World} {size n : Nat} {A : Option Addr} {xs : List Value} (h : Reads w w.heap.size size A n xs) (hc : Chg S w w') (hn : ∀ ad, A = some ad → 0 < n → ad.block ∉ S) : Reads w' w'.heap.size size A n xs :=
  ⟨h.1, fun h0 => by
    obtain ⟨ad, rfl, hb, hcell⟩ := h.2 h0
    exact ⟨ad, rfl, Nat.lt_of_lt_of_le hb hc.size, fun j u hu => (hc.cell (by rw [block_of_add]; exact hb) (by rw [block_of_add]; exact hn ad rfl h0)).trans (hcell j u hu)⟩⟩
/-- the value, a slice, reads nothing in those blocks -/
def Off (v : Value) (S : List Nat) : Prop := ∀ ad n c, v = .slice (some ad) n c → 0 < n → ad.block ∉ S
theorem Off.at_ {A : Option Addr} {n c : Nat} {S : List Nat} (h : Off (.slice A n c) S) : ∀ ad, A = some ad → 0 < n → ad.block ∉ S := by
  rintro ad rfl
  exact h ad n c rfl
theorem Off.slice {A : Option Addr} {n c n' c' : Nat} {S : List Nat} (h : Off (.slice A n c) S) (hn : n' ≤ n) : Off (.slice A n' c') S := by
  rintro ad m k he h0
  simp only [Value.slice.injEq] at he
  obtain ⟨rfl, rfl, rfl⟩ := he
  exact h ad n c rfl (by omega)
theorem Off.of_own {v : Value} {S : List Nat} (h : ∀ k, v.ownBlock = some k → k ∉ S) : Off v S := by
  rintro ad n c rfl _
  exact h ad.block rfl
theorem Off.nil (S : List Nat) (c : Nat) : Off (.slice none 0 c) S := by rintro ad n c he; cases he
theorem Bs.chg {S : List Nat} {w w' : World} {v : Value} {l : Bytes} (h : Bs w v l) (hc : Chg S w w') (hn : Off v S) : Bs w' v l := by
  obtain ⟨A, c, rfl, h1, h2, h3⟩ := h
  exact ⟨A, c, rfl, h1, h2, h3.chg hc hn.at_⟩
/-- a value of new memory -/
theorem Nw.off {w w' : World} {v : Value} {l : Bytes} (h : Nw w w' v l) {S : List Nat} (hs : ∀ k, k ∈ S → k < w.heap.size) : Off v S := by
  refine .of_own fun k hk hm => ?_
  have h1 := h.lt k hk
  have h2 := hs k hm
  omega
theorem Nw.chg {S : List Nat} {w0 w w' : World} {v : Value} {l : Bytes} (h : Nw w0 w v l) (hc : Chg S w w') (hn : ∀ k, v.ownBlock = some k → k ∉ S) : Nw w0 w' v l := by
  refine ⟨h.1, ?_⟩
  rcases h.2 with h2 | ⟨g, cap, cur, hv, hg, hh, r⟩
  · exact .inl h2
  · refine .inr ⟨g, cap, cur, hv, hg, ?_, r⟩
    have hlt : g < w.heap.size := by
      rcases Nat.lt_or_ge g w.heap.size with h | h
      · exact h
      · rw [Array.getElem?_eq_none h] at hh; cases hh
    rw [hc.block g hlt (hn g (by rw [hv]; rfl))]
    exact hh
/-- what was there ahead does not lie in new blocks -/
theorem Bs.off {w : World} {v : Value} {l : Bytes} (h : Bs w v l) {S : List Nat} (hs : ∀ k, k ∈ S → w.heap.size ≤ k) : Off v S := by
  rintro ad n c rfl h0 hm
  obtain ⟨hn, _, _, hr⟩ := h.inv
  obtain ⟨ad', he, hb, _⟩ := hr.2 h0
  obtain rfl : ad = ad' := Option.some.inj he
  have := hs _ hm
  omega
theorem Chg.then_new {S T : List Nat} {a b c : World} (h : Chg S a b) (k : Chg T b c) (hs : ∀ i, i ∈ T → a.heap.size ≤ i) : Chg S a c :=
  ⟨k.os.trans h.os, k.tape.trans h.tape, k.output.trans h.output, Nat.le_trans h.size k.size, fun i hi hn => (k.block i (Nat.lt_of_lt_of_le hi h.size) fun hm => by have := hs i hm; omega).trans (h.block i hi hn)⟩
end Go.Proofs.Ytlblgopfdadalaa
namespace Go.Proofs.Ytlblgopfdadalaa
set_option linter.unusedVariables false
set_option linter.unusedSimpArgs false
set_option linter.unnecessarySimpa false
set_option maxRecDepth 100000
open Go.ChangeShapes Go.WideShapes Go.ChangeAt Go.RowKit
theorem own : ownKnob Try.prog.godebug = none := by kernel_rfl
theorem laidOut : laidOutB Try.prog = true := by kernel_rfl
theorem bs_of_ints {W : World} {x : Addr} {len cap : Nat} {zs : List Int} (hl : len ≤ cap) (hm : cap ≤ maxLen) (hz : zs.length = cap)
    (hcell : ∀ i, i < zs.length → W.cell? (x.add i) = some (.int .u8 (zs.getD i 0))) (hw : ∀ n ∈ zs, (Lit.int .u8 n).wf = true) : ∃ b, Bs W (.slice (some x) len cap) b := by
  have hb : ∀ n ∈ zs, 0 ≤ n ∧ n ≤ 255 := by
    intro n hn
    have := hw n hn
    simp [Lit.wf, IntKind.min, IntKind.max, IntKind.bits, IntKind.signed] at this
    exact this
  refine ⟨(zs.take len).map fun n => UInt8.ofNat n.toNat, Bs.mk' (by simp; omega) hl hm ⟨by simp; omega, fun hn => ⟨x, rfl, ?_, fun j u hu => ?_⟩⟩⟩
  · have h0 := hcell 0 (by omega)
    have := World.block_lt_of_cell? W _ h0
    rwa [block_of_add] at this
  · rw [bv, List.map_map, List.getElem?_map, Option.map_eq_some_iff] at hu
    obtain ⟨n, hn, rfl⟩ := hu
    rw [List.getElem?_take] at hn
    split at hn
    · have hj : j < zs.length := (List.getElem?_eq_some_iff.1 hn).1
      rw [hcell j hj, List.getD_eq_getElem?_getD, hn]
      have := hb n (List.mem_of_getElem? hn)
      simp only [Function.comp_apply, Option.getD_some, UInt8.toNat_ofNat']
      congr 2
      omega
    · cases hn
end Go.Proofs.Ytlblgopfdadalaa
