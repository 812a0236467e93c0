import Derived.Test.YtamimdlaclglkaaPk4
import Derived.Test.YtamimdlaclglkaaPk3
import Derived.Test.YtamimdlaclglkaaPk1
import Derived.Test.YtamimdlaclglkaaPk5
/- Commands and their bytes, in plain Lean. -/
namespace Go.Proofs.Ytamimdlaclglkaa
set_option linter.unusedVariables false
set_option linter.unusedSimpArgs false
set_option linter.unnecessarySimpa false
set_option maxRecDepth 100000
open Go.RowKit
structure Cm where
  kind : Int
  client : Int
  seq : Int
  name : Bytes
  url : Bytes
  till : Int
abbrev ccells (c : Cm) : Array Value := #[.int .i64 c.kind, .int .i64 c.client, .int .u64 c.seq, str c.name, str c.url, .int .u64 c.till]
abbrev cv (c : Cm) : Value := .agg (ccells c)
def Cm.zero : Cm := ⟨0, 0, 0, [], [], 0⟩
structure Cm.ok (c : Cm) : Prop where
  k0 : 0 ≤ c.kind
  k1 : c.kind ≤ 255
  c0 : 0 ≤ c.client
  c1 : c.client ≤ 255
  s0 : 0 ≤ c.seq
  s1 : c.seq ≤ 18446744073709551615
  n1 : c.name.length ≤ 4294967295
  u1 : c.url.length ≤ 4294967295
  t0 : 0 ≤ c.till
  t1 : c.till ≤ 18446744073709551615
def cbytes (c : Cm) : Bytes := be 1 c.kind.toNat ++ (be 1 c.client.toNat ++ (be 8 c.seq.toNat ++ (oputBytes [] c.name ++ (oputBytes [] c.url ++ be 8 c.till.toNat))))
def cput (c : Cm) : Bytes := if c.kind = 0 then [] else cbytes c
/-- bytes that are still to be read, and the first error -/
abbrev Rdr := Bytes × Int
def pnum (n : Nat) (s : Rdr) : Int × Rdr := if s.2 = 0 then (if s.1.length < n then (0, (s.1, 3)) else (((val (s.1.take n) : Nat) : Int), (s.1.drop n, 0))) else (0, s)
def ptext (s : Rdr) : Bytes × Rdr := if s.2 = 0 then ((otakeBytes s.1).1, (s.1.drop (otakeBytes s.1).2.1.toNat, (otakeBytes s.1).2.2)) else ([], s)
def pform (c : Bool) (s : Rdr) : Rdr := if s.2 = 0 ∧ c = true then (s.1, 2) else s
def pall (s : Rdr) : Cm × Rdr :=
  let a := pnum 1 s
  let s1 := pform (decide (a.1 = 0)) a.2
  let b := pnum 1 s1
  let c := pnum 8 b.2
  let d := ptext c.2
  let e := ptext d.2
  let f := pnum 8 e.2
  (⟨a.1, b.1, c.1, d.1, e.1, f.1⟩, pform (decide (0 < f.2.1.length)) f.2)
def ctake (b : Bytes) : Cm × Int := if b = [] then (Cm.zero, 0) else if (pall (b, 0)).2.2 = 0 then ((pall (b, 0)).1, 0) else (Cm.zero, (pall (b, 0)).2.2)

theorem pnum_bad (n : Nat) (s : Rdr) (h : s.2 ≠ 0) : pnum n s = (0, s) := if_neg h
theorem ptext_bad (s : Rdr) (h : s.2 ≠ 0) : ptext s = ([], s) := if_neg h
theorem pform_bad (c : Bool) (s : Rdr) (h : s.2 ≠ 0) : pform c s = s := if_neg fun k => h k.1
theorem pform_no (s : Rdr) : pform false s = s := if_neg fun k => by cases k.2
theorem pform_yes (b : Bytes) : pform true (b, 0) = (b, 2) := if_pos ⟨rfl, rfl⟩
theorem pnum_be (n : Nat) (v : Int) (r : Bytes) (h0 : 0 ≤ v) (h : v.toNat < 256 ^ n) : pnum n (be n v.toNat ++ r, 0) = (v, (r, 0)) := by
  have hl := be_length n v.toNat
  unfold pnum
  rw [if_pos rfl, if_neg (by simp [hl])]
  simp only
  rw [take_app _ _ _ hl, drop_app _ _ _ hl, val_be, Nat.mod_eq_of_lt h, Int.toNat_of_nonneg h0]
theorem pnum_short (n : Nat) (b : Bytes) (h : b.length < n) : pnum n (b, 0) = (0, (b, 3)) := by
  unfold pnum; rw [if_pos rfl, if_pos h]
theorem ptext_put (s r : Bytes) (h : s.length ≤ 4294967295) : ptext (oputBytes [] s ++ r, 0) = (s, (r, 0)) := by
  unfold ptext
  rw [if_pos rfl, otakeBytes_put s r (by omega)]
  simp only
  rw [drop_app _ _ _ (by rw [oputBytes_length]; simp; omega)]
theorem ptext_short (s : Bytes) (p : Nat) (h : s.length ≤ 4294967295) (hp : p < s.length + 4) : ptext ((oputBytes [] s).take p, 0) = ([], ((oputBytes [] s).take p, 3)) := by
  unfold ptext
  rw [if_pos rfl, otakeBytes_cut s p (by omega) hp]
  simp
theorem take_head {α : Type} (l m : List α) (p : Nat) (h : p < l.length) : (l ++ m).take p = l.take p := by rw [List.take_append_of_le_length (by omega)]
theorem take_tail {α : Type} (l m : List α) (p : Nat) (h : l.length ≤ p) : (l ++ m).take p = l ++ m.take (p - l.length) := by
  rw [List.take_append, List.take_of_length_le h]
theorem pow1 : 256 ^ 1 = 256 := rfl
theorem pow8 : 256 ^ 8 = 18446744073709551616 := rfl
theorem Cm.ok.kb {c : Cm} (h : c.ok) : c.kind.toNat < 256 ^ 1 := by have := h.k1; have := h.k0; omega
theorem Cm.ok.cb {c : Cm} (h : c.ok) : c.client.toNat < 256 ^ 1 := by have := h.c1; have := h.c0; omega
theorem Cm.ok.sb {c : Cm} (h : c.ok) : c.seq.toNat < 256 ^ 8 := by have := h.s1; have := h.s0; rw [pow8]; omega
theorem Cm.ok.tb {c : Cm} (h : c.ok) : c.till.toNat < 256 ^ 8 := by have := h.t1; have := h.t0; rw [pow8]; omega
/-- what is put is taken, whatever stands behind -/
theorem pall_put (c : Cm) (h : c.ok) (hk : c.kind ≠ 0) (r : Bytes) : pall (cbytes c ++ r, 0) = (c, pform (decide (0 < r.length)) (r, 0)) := by
  have e1 := pnum_be 1 c.kind (be 1 c.client.toNat ++ (be 8 c.seq.toNat ++ (oputBytes [] c.name ++ (oputBytes [] c.url ++ (be 8 c.till.toNat ++ r))))) h.k0 h.kb
  have e2 := pnum_be 1 c.client (be 8 c.seq.toNat ++ (oputBytes [] c.name ++ (oputBytes [] c.url ++ (be 8 c.till.toNat ++ r)))) h.c0 h.cb
  have e3 := pnum_be 8 c.seq (oputBytes [] c.name ++ (oputBytes [] c.url ++ (be 8 c.till.toNat ++ r))) h.s0 h.sb
  have e4 := ptext_put c.name (oputBytes [] c.url ++ (be 8 c.till.toNat ++ r)) h.n1
  have e5 := ptext_put c.url (be 8 c.till.toNat ++ r) h.u1
  have e6 := pnum_be 8 c.till r h.t0 h.tb
  have e0 : cbytes c ++ r = be 1 c.kind.toNat ++ (be 1 c.client.toNat ++ (be 8 c.seq.toNat ++ (oputBytes [] c.name ++ (oputBytes [] c.url ++ (be 8 c.till.toNat ++ r))))) := by
    unfold cbytes; simp only [List.append_assoc]
  rw [e0]
  unfold pall
  simp only [e1, decide_eq_false hk, pform_no, e2, e3, e4, e5, e6]
theorem cbytes_ne (c : Cm) (r : Bytes) : cbytes c ++ r ≠ [] := by
  intro e
  have := congrArg List.length e
  simp [cbytes, be_length] at this
theorem ctake_put (c : Cm) (h : c.ok) (hk : c.kind ≠ 0) : ctake (cput c) = (c, 0) := by
  have e := pall_put c h hk []
  rw [List.append_nil] at e
  have hn := cbytes_ne c []
  rw [List.append_nil] at hn
  rw [cput, if_neg hk, ctake, if_neg hn, e]
  rfl
theorem ctake_more (c : Cm) (h : c.ok) (hk : c.kind ≠ 0) (x : UInt8) : ctake (cput c ++ [x]) = (Cm.zero, 2) := by
  have e := pall_put c h hk [x]
  rw [cput, if_neg hk, ctake, if_neg (cbytes_ne c _), e]
  rfl
theorem pform3 (c : Bool) (b : Bytes) : pform c (b, 3) = (b, 3) := pform_bad c _ (by simp)
theorem pnum3 (n : Nat) (b : Bytes) : pnum n (b, 3) = (0, (b, 3)) := pnum_bad n _ (by simp)
theorem ptext3 (b : Bytes) : ptext (b, 3) = ([], (b, 3)) := ptext_bad _ (by simp)
/-- cut off it is short -/
theorem pall_cut (c : Cm) (h : c.ok) (hk : c.kind ≠ 0) (p : Nat) (hp : p < (cbytes c).length) : (pall ((cbytes c).take p, 0)).2.2 = 3 := by
  have hlen : (cbytes c).length = 1 + (1 + (8 + ((c.name.length + 4) + ((c.url.length + 4) + 8)))) := by simp [cbytes, be_length, oputBytes_length]
  rw [hlen] at hp
  unfold cbytes
  by_cases h1 : p < 1
  · rw [take_head _ _ _ (by rw [be_length]; exact h1)]
    unfold pall
    rw [pnum_short 1 _ (by simp [be_length]; omega)]
    simp only [pform3, pnum3, ptext3]
  rw [take_tail _ _ _ (by rw [be_length]; omega), be_length]
  by_cases h2 : p - 1 < 1
  · rw [take_head _ _ _ (by rw [be_length]; exact h2)]
    unfold pall
    rw [pnum_be 1 c.kind _ h.k0 h.kb]
    simp only [decide_eq_false hk, pform_no]
    rw [pnum_short 1 _ (by simp [be_length]; omega)]
    simp only [pform3, pnum3, ptext3]
  rw [take_tail _ _ _ (by rw [be_length]; omega), be_length]
  by_cases h3 : p - 1 - 1 < 8
  · rw [take_head _ _ _ (by rw [be_length]; exact h3)]
    unfold pall
    rw [pnum_be 1 c.kind _ h.k0 h.kb]
    simp only [decide_eq_false hk, pform_no]
    rw [pnum_be 1 c.client _ h.c0 h.cb]
    simp only
    rw [pnum_short 8 _ (by simp [be_length]; omega)]
    simp only [pform3, pnum3, ptext3]
  rw [take_tail _ _ _ (by rw [be_length]; omega), be_length]
  by_cases h4 : p - 1 - 1 - 8 < c.name.length + 4
  · rw [take_head _ _ _ (by rw [oputBytes_length]; simp; omega)]
    unfold pall
    rw [pnum_be 1 c.kind _ h.k0 h.kb]
    simp only [decide_eq_false hk, pform_no]
    rw [pnum_be 1 c.client _ h.c0 h.cb]
    simp only
    rw [pnum_be 8 c.seq _ h.s0 h.sb]
    simp only
    rw [ptext_short _ _ h.n1 h4]
    simp only [pform3, pnum3, ptext3]
  rw [take_tail _ _ _ (by rw [oputBytes_length]; simp; omega)]
  have e5 : (oputBytes [] c.name).length = c.name.length + 4 := by rw [oputBytes_length]; simp
  rw [e5]
  by_cases h5 : p - 1 - 1 - 8 - (c.name.length + 4) < c.url.length + 4
  · rw [take_head _ _ _ (by rw [oputBytes_length]; simp; omega)]
    unfold pall
    rw [pnum_be 1 c.kind _ h.k0 h.kb]
    simp only [decide_eq_false hk, pform_no]
    rw [pnum_be 1 c.client _ h.c0 h.cb]
    simp only
    rw [pnum_be 8 c.seq _ h.s0 h.sb]
    simp only
    rw [ptext_put _ _ h.n1]
    simp only
    rw [ptext_short _ _ h.u1 h5]
    simp only [pform3, pnum3, ptext3]
  rw [take_tail _ _ _ (by rw [oputBytes_length]; simp; omega)]
  have e6 : (oputBytes [] c.url).length = c.url.length + 4 := by rw [oputBytes_length]; simp
  rw [e6]
  unfold pall
  rw [pnum_be 1 c.kind _ h.k0 h.kb]
  simp only [decide_eq_false hk, pform_no]
  rw [pnum_be 1 c.client _ h.c0 h.cb]
  simp only
  rw [pnum_be 8 c.seq _ h.s0 h.sb]
  simp only
  rw [ptext_put _ _ h.n1]
  simp only
  rw [ptext_put _ _ h.u1]
  simp only
  rw [pnum_short 8 _ (by simp [be_length]; omega)]
  simp only [pform3]
theorem ctake_cut (c : Cm) (h : c.ok) (hk : c.kind ≠ 0) (p : Nat) (hp : p < (cput c).length) (h0 : 0 < p) : ctake ((cput c).take p) = (Cm.zero, 3) := by
  rw [cput, if_neg hk] at *
  have e := pall_cut c h hk p hp
  rw [ctake, if_neg (by intro k; have := congrArg List.length k; rw [List.length_take] at this; simp only [List.length_nil] at this; omega), e]
  rfl
/-! what is read is what was put -/
theorem pnum_inv (n : Nat) (s : Rdr) (h : (pnum n s).2.2 = 0) : s.2 = 0 ∧ s.1 = be n (pnum n s).1.toNat ++ (pnum n s).2.1 ∧ 0 ≤ (pnum n s).1 ∧ (pnum n s).1 < 256 ^ n := by
  obtain ⟨b, e⟩ := s
  unfold pnum at *
  by_cases he : e = 0
  · subst he
    rw [if_pos rfl] at *
    by_cases hl : b.length < n
    · rw [if_pos hl] at h; cases h
    · rw [if_neg hl] at *
      have hlt := val_lt (b.take n)
      have hln : (b.take n).length = n := by simp; omega
      rw [hln] at hlt
      refine ⟨rfl, ?_, by simp, by show ((val (b.take n) : Nat) : Int) < 256 ^ n; exact_mod_cast hlt⟩
      show b = be n ((val (b.take n) : Nat) : Int).toNat ++ b.drop n
      rw [Int.toNat_natCast]
      have e2 : b.take n = be n (val (b.take n)) := val_inj _ _ (by rw [hln, be_length]) (by rw [val_be, Nat.mod_eq_of_lt hlt])
      rw [← e2, List.take_append_drop]
  · rw [if_neg he] at h; exact absurd h he
theorem ptext_inv (s : Rdr) (h : (ptext s).2.2 = 0) : s.2 = 0 ∧ s.1 = oputBytes [] (ptext s).1 ++ (ptext s).2.1 ∧ (ptext s).1.length ≤ 4294967295 := by
  obtain ⟨b, e⟩ := s
  unfold ptext at *
  by_cases he : e = 0
  · subst he
    rw [if_pos rfl] at *
    simp only at h ⊢
    unfold otakeBytes at *
    by_cases hc : b.length < 4 ∨ b.length - 4 < val (b.take 4)
    · rw [if_pos hc] at h; cases h
    · rw [if_neg hc] at *
      have hl4 : (b.take 4).length = 4 := by simp; omega
      have hlt := val_lt (b.take 4)
      rw [hl4] at hlt
      have hk : ((b.drop 4).take (val (b.take 4))).length = val (b.take 4) := by simp; omega
      refine ⟨by trivial, ?_, ?_⟩
      · simp only [Int.toNat_natCast, oputBytes, List.nil_append]
        rw [hk]
        have e2 : b.take 4 = be 4 (val (b.take 4)) := val_inj _ _ (by rw [hl4, be_length]) (by rw [val_be, Nat.mod_eq_of_lt hlt])
        rw [← e2, ← List.drop_drop, List.append_assoc, List.take_append_drop, List.take_append_drop]
      · simp only
        rw [hk]
        have : (256 : Nat) ^ 4 = 4294967296 := rfl
        omega
  · rw [if_neg he] at h; exact absurd h he
theorem pform_inv (c : Bool) (s : Rdr) (h : (pform c s).2 = 0) : s.2 = 0 ∧ c = false ∧ pform c s = s := by
  unfold pform at *
  by_cases hc : s.2 = 0 ∧ c = true
  · rw [if_pos hc] at h; cases h
  · rw [if_neg hc] at *
    exact ⟨h, by cases c <;> simp_all, rfl⟩
theorem pall_inv (b : Bytes) (h : (pall (b, 0)).2.2 = 0) : b = cbytes (pall (b, 0)).1 ∧ (pall (b, 0)).1.ok ∧ (pall (b, 0)).1.kind ≠ 0 := by
  unfold pall at *
  simp only at h ⊢
  generalize ha : pnum 1 (b, (0 : Int)) = A at *
  generalize hb : pnum 1 (pform (decide (A.1 = 0)) A.2) = B at *
  generalize hc : pnum 8 B.2 = C at *
  generalize hd : ptext C.2 = D at *
  generalize he : ptext D.2 = E at *
  generalize hf : pnum 8 E.2 = F at *
  obtain ⟨f0, f1, f2⟩ := pform_inv _ _ h
  have f3 := pnum_inv 8 E.2 (by rw [hf]; exact f0)
  rw [hf] at f3
  have f4 := ptext_inv D.2 (by rw [he]; exact f3.1)
  rw [he] at f4
  have f5 := ptext_inv C.2 (by rw [hd]; exact f4.1)
  rw [hd] at f5
  have f6 := pnum_inv 8 B.2 (by rw [hc]; exact f5.1)
  rw [hc] at f6
  have f7 := pnum_inv 1 (pform (decide (A.1 = 0)) A.2) (by rw [hb]; exact f6.1)
  rw [hb] at f7
  obtain ⟨g0, g1, g2⟩ := pform_inv _ _ f7.1
  rw [g2] at f7
  have f8 := pnum_inv 1 (b, (0 : Int)) (by rw [ha]; exact g0)
  rw [ha] at f8
  have p1 : (256 : Int) ^ 1 = 256 := rfl
  have p8 : (256 : Int) ^ 8 = 18446744073709551616 := rfl
  rw [p8] at f3 f6
  rw [p1] at f7 f8
  have hz : F.2.1 = [] := by
    have : ¬ 0 < F.2.1.length := of_decide_eq_false f1
    exact List.length_eq_zero_iff.1 (by omega)
  refine ⟨?_, ⟨f8.2.2.1, by have := f8.2.2.2; show A.1 ≤ 255; omega, f7.2.2.1, by have := f7.2.2.2; show B.1 ≤ 255; omega, f6.2.2.1, by have := f6.2.2.2; show C.1 ≤ 18446744073709551615; omega, f5.2.2, f4.2.2, f3.2.2.1, by have := f3.2.2.2; show F.1 ≤ 18446744073709551615; omega⟩, of_decide_eq_false g1⟩
  unfold cbytes
  simp only
  have q1 := f8.2.1
  rw [f7.2.1, f6.2.1, f5.2.1, f4.2.1, f3.2.1, hz, List.append_nil] at q1
  exact q1
theorem cput_take (b : Bytes) (h : (ctake b).2 = 0) : cput (ctake b).1 = b ∧ (ctake b).1.ok := by
  unfold ctake at *
  by_cases hb : b = []
  · rw [if_pos hb]
    subst hb
    exact ⟨rfl, by constructor <;> simp [Cm.zero]⟩
  · rw [if_neg hb] at *
    by_cases he : (pall (b, 0)).2.2 = 0
    · rw [if_pos he] at *
      obtain ⟨h1, h2, h3⟩ := pall_inv b he
      refine ⟨?_, h2⟩
      show cput (pall (b, 0)).1 = b
      rw [cput, if_neg h3, ← h1]
    · rw [if_neg he] at h; exact absurd h he
theorem cput_inj (c d : Cm) (hc : c.ok) (hd : d.ok) (k1 : c.kind ≠ 0) (k2 : d.kind ≠ 0) (h : cput c = cput d) : c = d := by
  have e1 := ctake_put c hc k1
  have e2 := ctake_put d hd k2
  rw [h, e2] at e1
  exact (congrArg Prod.fst e1).symm
end Go.Proofs.Ytamimdlaclglkaa

/- Bounds of numbers. -/
namespace Go.Proofs.Ytamimdlaclglkaa
set_option linter.unusedVariables false
set_option linter.unusedSimpArgs false
set_option linter.unnecessarySimpa false
set_option maxRecDepth 100000
open Go.RowKit
abbrev I64 (n : Int) : Prop := -9223372036854775808 ≤ n ∧ n ≤ 9223372036854775807
abbrev U64 (n : Int) : Prop := 0 ≤ n ∧ n ≤ 18446744073709551615
end Go.Proofs.Ytamimdlaclglkaa

/- Answers: in plain Lean, and how values of them read. -/
namespace Go.Proofs.Ytamimdlaclglkaa
set_option linter.unusedVariables false
set_option linter.unusedSimpArgs false
set_option linter.unnecessarySimpa false
set_option maxRecDepth 100000
open Go.RowKit
structure An where
  err : Int
  text : Bytes
abbrev anE : Enc An := Enc.map (.pair .i64 (.pair .text .unit)) fun a => (a.err, a.text, ())
open Enc in
theorem anE_opens : Opens 36 anE :=
  (opens_struct Try.underlying36 (by kernel_rfl) (.cons rfl (by kernel_rfl) (opens_int Try.underlying34 wf_i64) (.cons rfl (by kernel_rfl) (opens_text Try.underlying9) (.nil _)))).map _ fun ⟨a, b, _⟩ => ⟨⟨a, b⟩, rfl⟩
abbrev acells (a : An) : List Value := [.int .i64 a.err, str a.text]
section
variable {w : World} {X : Avoid} {cs : List Value}
theorem an_rep {a : An} : anE.rep w X cs a ↔ cs = acells a ∧ I64 a.err ∧ a.text.length ≤ maxLen := by
  constructor
  · rintro ⟨c1, c2, rfl, ⟨rfl, h1⟩, c3, c4, rfl, ⟨rfl, h2⟩, rfl⟩
    exact ⟨rfl, h1, h2⟩
  · rintro ⟨rfl, h1, h2⟩
    exact ⟨[_], [_], rfl, ⟨rfl, h1⟩, [_], [], rfl, ⟨rfl, h2⟩, rfl⟩
end
end Go.Proofs.Ytamimdlaclglkaa

/- The state's types in plain Lean, and how values of them read. -/
namespace Go.Proofs.Ytamimdlaclglkaa
set_option linter.unusedVariables false
set_option linter.unusedSimpArgs false
set_option linter.unnecessarySimpa false
set_option maxRecDepth 100000
open Go.RowKit
structure Dn where
  seq : Int
  an : An
structure Se where
  client : Int
  high : Int
  done : List Dn
structure Ln where
  name : Bytes
  url : Bytes
  till : Int
  made : Bool
structure St where
  now : Int
  count : Int
  links : List Ln
  sess : List Se
abbrev dnE : Enc Dn := Enc.map (.pair .u64 (.pair anE .unit)) fun d => (d.seq, d.an, ())
abbrev seE : Enc Se := Enc.map (.pair .i64 (.pair .u64 (.pair (.slice dnE) .unit))) fun s => (s.client, s.high, s.done, ())
abbrev lnE : Enc Ln := Enc.map (.pair .text (.pair .text (.pair .u64 (.pair .bool .unit)))) fun l => (l.name, l.url, l.till, l.made, ())
abbrev stE : Enc St := Enc.map (.pair .u64 (.pair .u64 (.pair (.slice lnE) (.pair (.slice seE) .unit)))) fun s => (s.now, s.count, s.links, s.sess, ())
open Enc in
theorem dnE_opens : Opens 38 dnE :=
  (opens_struct Try.underlying38 (by kernel_rfl) (.cons rfl (by kernel_rfl) (opens_int Try.underlying22 wf_u64) (.cons rfl (by kernel_rfl) anE_opens (.nil _)))).map _ fun ⟨a, b, _⟩ => ⟨⟨a, b⟩, rfl⟩
open Enc in
theorem seE_opens : Opens 41 seE :=
  (opens_struct Try.underlying41 (by kernel_rfl) (.cons rfl (by kernel_rfl) (opens_int Try.underlying3 wf_i64) (.cons rfl (by kernel_rfl) (opens_int Try.underlying22 wf_u64) (.cons rfl (by kernel_rfl) (opens_slice Try.underlying39 (by kernel_rfl) (by decide) dnE_opens) (.nil _))))).map _ fun ⟨a, b, c, _⟩ => ⟨⟨a, b, c⟩, rfl⟩
open Enc in
theorem lnE_opens : Opens 33 lnE :=
  (opens_struct Try.underlying33 (by kernel_rfl) (.cons rfl (by kernel_rfl) (opens_text Try.underlying9) (.cons rfl (by kernel_rfl) (opens_text Try.underlying9) (.cons rfl (by kernel_rfl) (opens_int Try.underlying22 wf_u64) (.cons rfl (by kernel_rfl) (opens_bool Try.underlying4) (.nil _)))))).map _ fun ⟨a, b, c, d, _⟩ => ⟨⟨a, b, c, d⟩, rfl⟩
open Enc in
theorem stE_opens : Opens 26 stE :=
  (opens_struct Try.underlying26 (by kernel_rfl) (.cons rfl (by kernel_rfl) (opens_int Try.underlying22 wf_u64) (.cons rfl (by kernel_rfl) (opens_int Try.underlying22 wf_u64)
    (.cons rfl (by kernel_rfl) (opens_slice Try.underlying23 (by kernel_rfl) (by decide) lnE_opens) (.cons rfl (by kernel_rfl) (opens_slice Try.underlying24 (by kernel_rfl) (by decide) seE_opens) (.nil _)))))).map _ fun ⟨a, b, c, d, _⟩ => ⟨⟨a, b, c, d⟩, rfl⟩
abbrev dcells (d : Dn) : List Value := [.int .u64 d.seq, .int .i64 d.an.err, str d.an.text]
abbrev lcells (l : Ln) : List Value := [str l.name, str l.url, .int .u64 l.till, .bool l.made]
abbrev secells (s : Se) (v : Value) : List Value := [.int .i64 s.client, .int .u64 s.high, v]
abbrev stcells (s : St) (vl vs : Value) : List Value := [.int .u64 s.now, .int .u64 s.count, vl, vs]
section
variable {w : World} {X : Avoid} {cs : List Value}
theorem dn_rep {d : Dn} : dnE.rep w X cs d ↔ cs = dcells d ∧ U64 d.seq ∧ I64 d.an.err ∧ d.an.text.length ≤ maxLen := by
  constructor
  · rintro ⟨c1, c2, rfl, ⟨rfl, h1⟩, c3, c4, rfl, h2, rfl⟩
    obtain ⟨rfl, h3, h4⟩ := an_rep.1 h2
    exact ⟨rfl, h1, h3, h4⟩
  · rintro ⟨rfl, h1, h2, h3⟩
    exact ⟨[_], [_, _], rfl, ⟨rfl, h1⟩, [_, _], [], rfl, an_rep.2 ⟨rfl, h2, h3⟩, rfl⟩
theorem ln_rep {l : Ln} : lnE.rep w X cs l ↔ cs = lcells l ∧ l.name.length ≤ maxLen ∧ l.url.length ≤ maxLen ∧ U64 l.till := by
  constructor
  · rintro ⟨c1, c2, rfl, ⟨rfl, h1⟩, c3, c4, rfl, ⟨rfl, h2⟩, c5, c6, rfl, ⟨rfl, h3⟩, c7, c8, rfl, rfl, rfl⟩
    exact ⟨rfl, h1, h2, h3⟩
  · rintro ⟨rfl, h1, h2, h3⟩
    exact ⟨[_], [_, _, _], rfl, ⟨rfl, h1⟩, [_], [_, _], rfl, ⟨rfl, h2⟩, [_], [_], rfl, ⟨rfl, h3⟩, [_], [], rfl, rfl, rfl⟩
theorem se_rep {s : Se} : seE.rep w X cs s ↔ ∃ v, cs = secells s v ∧ I64 s.client ∧ U64 s.high ∧ Enc.Sl dnE w X v s.done := by
  constructor
  · rintro ⟨c1, c2, rfl, ⟨rfl, h1⟩, c3, c4, rfl, ⟨rfl, h2⟩, c5, c6, rfl, ⟨v, rfl, h3⟩, rfl⟩
    exact ⟨v, rfl, h1, h2, h3⟩
  · rintro ⟨v, rfl, h1, h2, h3⟩
    exact ⟨[_], [_, _], rfl, ⟨rfl, h1⟩, [_], [_], rfl, ⟨rfl, h2⟩, [_], [], rfl, ⟨v, rfl, h3⟩, rfl⟩
theorem st_rep {s : St} : stE.rep w X cs s ↔ ∃ vl vs, cs = stcells s vl vs ∧ U64 s.now ∧ U64 s.count ∧ Enc.Sl lnE w X vl s.links ∧ Enc.Sl seE w X vs s.sess := by
  constructor
  · rintro ⟨c1, c2, rfl, ⟨rfl, h1⟩, c3, c4, rfl, ⟨rfl, h2⟩, c5, c6, rfl, ⟨v, rfl, h3⟩, c7, c8, rfl, ⟨u, rfl, h4⟩, rfl⟩
    exact ⟨v, u, rfl, h1, h2, h3, h4⟩
  · rintro ⟨v, u, rfl, h1, h2, h3, h4⟩
    exact ⟨[_], [_, _, _], rfl, ⟨rfl, h1⟩, [_], [_, _], rfl, ⟨rfl, h2⟩, [_], [_], rfl, ⟨v, rfl, h3⟩, [_], [], rfl, ⟨u, rfl, h4⟩, rfl⟩
end
theorem elt_ln : Elt 33 lnE (.agg #[.string ByteArray.empty, .string ByteArray.empty, .int .u64 0, .bool false]) 48 := ⟨by kernel_rfl, rfl, by decide⟩
theorem elt_se : Elt 41 seE (.agg #[.int .i64 0, .int .u64 0, .slice none 0 0]) 40 := ⟨by kernel_rfl, rfl, by decide⟩
theorem elt_dn : Elt 38 dnE (.agg #[.int .u64 0, .int .i64 0, .string ByteArray.empty]) 32 := ⟨by kernel_rfl, rfl, by decide⟩
end Go.Proofs.Ytamimdlaclglkaa

/- slices.Clone of structs. -/
namespace Go.Proofs.Ytamimdlaclglkaa
set_option linter.unusedVariables false
set_option linter.unusedSimpArgs false
set_option linter.unnecessarySimpa false
set_option maxRecDepth 100000
open Go.RowKit
theorem sl_none {α : Type} {E : Enc α} {w : World} {X : Avoid} {c : Nat} {l : List α} (h : Enc.Sl E w X (.slice none l.length c) l) : l = [] := by
  obtain ⟨A, c', css, he, _, _, h3, _⟩ := h
  simp only [Value.slice.injEq] at he
  obtain ⟨rfl, _, _⟩ := he
  rcases Nat.eq_zero_or_pos l.length with h0 | h0
  · exact List.eq_nil_of_length_eq_zero h0
  · obtain ⟨_, h, _⟩ := h3.2 h0; cases h
theorem own_lit (w : World) : ∀ i, (Value.slice (some ⟨w.heap.size, 0, none⟩) 0 0).ownBlock = some i → w.heap.size ≤ i := fun i hi => Nat.le_of_eq (Option.some.inj hi)
/-- what a function returns that makes a new slice of structs -/
def RetOwnX {α : Type} (T : TypeId) (E : Enc α) (w w' : World) (X : Avoid) (e : Ending) (l : List α) : Prop := ∃ (m : List α) (A : Option Addr) (c : Nat), Hid (m = l) ∧ e = .returned (.slice A m.length c) ∧ Own T E w w' X (.slice A m.length c) m ∧ Ext w w'
abbrev RetOwn {α : Type} (T : TypeId) (E : Enc α) (w w' : World) (e : Ending) (l : List α) : Prop := RetOwnX T E w w' noneAt e l
theorem RetOwnX.mk {α : Type} {T : TypeId} {E : Enc α} {w w' : World} {X : Avoid} {y : Value} {l : List α} (h : Own T E w w' X y l) (hx : Ext w w') : RetOwnX T E w w' X (.returned y) l := by
  obtain ⟨A, c, rfl, _⟩ := h.form
  exact ⟨l, A, c, hide rfl, rfl, h, hx⟩
theorem Sl.apartX {α : Type} {E : Enc α} {w0 w : World} {X : Avoid} {v x : Value} {k : List α} (hx : Enc.Sl E w0 X x k) (hx0 : Ext w0 w) (h : ∀ i, v.ownBlock = some i → w0.heap.size ≤ i) : Enc.Sl E w (fun k => X k ∨ v.ownBlock = some k) x k :=
  (hx.mono fun i hi hm => by
    rcases hm with hm | hm
    · exact hm
    · have := h i hm; omega).ext hx0
theorem RetOwn.mk {α : Type} {T : TypeId} {E : Enc α} {w w' : World} {y : Value} {l : List α} (h : Own T E w w' noneAt y l) (hx : Ext w w') : RetOwn T E w w' (.returned y) l := by
  obtain ⟨A, c, rfl, _⟩ := h.form
  exact ⟨l, A, c, hide rfl, rfl, h, hx⟩
set_option maxHeartbeats 800000 in
theorem cloneX_ln (X : Avoid) (w : World) (hX : ∀ k, X k → k < w.heap.size) (x : Value) (l : List Ln) (hl : l.length ≤ 100000) (hx : Enc.Sl lnE w X x l) :
    Calls Try.prog 44 #[x] w fun e w' => RetOwnX 33 lnE w w' X e l := by
  obtain ⟨A, c, rfl, k1, k2⟩ := hx.form
  have q := fun (w : World) (a : Option Addr) (n c n' c' : Nat) => Lib.run_eql_slice_nil (P := Try.prog) w _ _ a n c n' c' Try.underlying23
  generalize hn : l.length = n at *
  have HN := hide hn
  clear hn
  rcases A with _ | ad
  · go_enter Try.func44, Try.ntmps44
    go_wp2
    go_ret
    have h0 : l = [] := sl_none (by rw [HN.out]; exact hx)
    subst h0
    exact RetOwnX.mk (Own.nil _ _ _ _ _) (Ext.rfl' _)
  · go_enter Try.func44, Try.ntmps44
    go_wp2_with (at_builtin; refine wpList_own elt_ln 23 Try.underlying23 rfl _ _ rfl (Own.lit0 (w0 := w) (X := X) _ _ (Ext.rfl' w) _ rfl (fun h => Nat.lt_irrefl _ (hX _ h))) rfl ((Ext.rfl' w).alloc' _) (m := l) rfl (Sl.apartX (w0 := w) hx ((Ext.rfl' w).alloc' _) (own_lit w)) (fun h => by have := hX _ h; simp at this; omega) (by have := HN.out; simp only [List.length_nil]; omega) (by have := HN.out; simp only [List.length_nil]; omega) ?_; intro k A2 c2 w2 hk hown hxx _)
    go_ret
    have hk' : k = l := hk.out
    subst hk'
    exact RetOwnX.mk hown hxx
theorem clone_ln (x : Value) (l : List Ln) (w : World) (hl : l.length ≤ 100000) (hx : Enc.Sl lnE w noneAt x l) :
    Calls Try.prog 44 #[x] w fun e w' => RetOwn 33 lnE w w' e l := cloneX_ln noneAt w (fun _ h => h.elim) x l hl hx
set_option maxHeartbeats 800000 in
theorem cloneX_lnt (X : Avoid) (w : World) (hX : ∀ k, X k → k < w.heap.size) (x : Value) (l : List Ln) (hl : l.length ≤ 100000) (hx : Enc.Sl lnE w X x l) :
    Calls Try.prog 97 #[x] w fun e w' => RetOwnX 33 lnE w w' X e l := by
  obtain ⟨A, c, rfl, k1, k2⟩ := hx.form
  have q := fun (w : World) (a : Option Addr) (n c n' c' : Nat) => Lib.run_eql_slice_nil (P := Try.prog) w _ _ a n c n' c' Try.underlying92
  generalize hn : l.length = n at *
  have HN := hide hn
  clear hn
  rcases A with _ | ad
  · go_enter Try.func97, Try.ntmps97
    go_wp2
    go_ret
    have h0 : l = [] := sl_none (by rw [HN.out]; exact hx)
    subst h0
    exact RetOwnX.mk (Own.nil _ _ _ _ _) (Ext.rfl' _)
  · go_enter Try.func97, Try.ntmps97
    go_wp2_with (at_builtin; refine wpList_own elt_ln 92 Try.underlying92 rfl _ _ rfl (Own.lit0 (w0 := w) (X := X) _ _ (Ext.rfl' w) _ rfl (fun h => Nat.lt_irrefl _ (hX _ h))) rfl ((Ext.rfl' w).alloc' _) (m := l) rfl (Sl.apartX (w0 := w) hx ((Ext.rfl' w).alloc' _) (own_lit w)) (fun h => by have := hX _ h; simp at this; omega) (by have := HN.out; simp only [List.length_nil]; omega) (by have := HN.out; simp only [List.length_nil]; omega) ?_; intro k A2 c2 w2 hk hown hxx _)
    go_ret
    have hk' : k = l := hk.out
    subst hk'
    exact RetOwnX.mk hown hxx
theorem clone_lnt (x : Value) (l : List Ln) (w : World) (hl : l.length ≤ 100000) (hx : Enc.Sl lnE w noneAt x l) :
    Calls Try.prog 97 #[x] w fun e w' => RetOwn 33 lnE w w' e l := cloneX_lnt noneAt w (fun _ h => h.elim) x l hl hx
set_option maxHeartbeats 800000 in
theorem cloneX_se (X : Avoid) (w : World) (hX : ∀ k, X k → k < w.heap.size) (x : Value) (l : List Se) (hl : l.length ≤ 100000) (hx : Enc.Sl seE w X x l) :
    Calls Try.prog 45 #[x] w fun e w' => RetOwnX 41 seE w w' X e l := by
  obtain ⟨A, c, rfl, k1, k2⟩ := hx.form
  have q := fun (w : World) (a : Option Addr) (n c n' c' : Nat) => Lib.run_eql_slice_nil (P := Try.prog) w _ _ a n c n' c' Try.underlying24
  generalize hn : l.length = n at *
  have HN := hide hn
  clear hn
  rcases A with _ | ad
  · go_enter Try.func45, Try.ntmps45
    go_wp2
    go_ret
    have h0 : l = [] := sl_none (by rw [HN.out]; exact hx)
    subst h0
    exact RetOwnX.mk (Own.nil _ _ _ _ _) (Ext.rfl' _)
  · go_enter Try.func45, Try.ntmps45
    go_wp2_with (at_builtin; refine wpList_own elt_se 24 Try.underlying24 rfl _ _ rfl (Own.lit0 (w0 := w) (X := X) _ _ (Ext.rfl' w) _ rfl (fun h => Nat.lt_irrefl _ (hX _ h))) rfl ((Ext.rfl' w).alloc' _) (m := l) rfl (Sl.apartX (w0 := w) hx ((Ext.rfl' w).alloc' _) (own_lit w)) (fun h => by have := hX _ h; simp at this; omega) (by have := HN.out; simp only [List.length_nil]; omega) (by have := HN.out; simp only [List.length_nil]; omega) ?_; intro k A2 c2 w2 hk hown hxx _)
    go_ret
    have hk' : k = l := hk.out
    subst hk'
    exact RetOwnX.mk hown hxx
theorem clone_se (x : Value) (l : List Se) (w : World) (hl : l.length ≤ 100000) (hx : Enc.Sl seE w noneAt x l) :
    Calls Try.prog 45 #[x] w fun e w' => RetOwn 41 seE w w' e l := cloneX_se noneAt w (fun _ h => h.elim) x l hl hx
set_option maxHeartbeats 800000 in
theorem cloneX_set (X : Avoid) (w : World) (hX : ∀ k, X k → k < w.heap.size) (x : Value) (l : List Se) (hl : l.length ≤ 100000) (hx : Enc.Sl seE w X x l) :
    Calls Try.prog 68 #[x] w fun e w' => RetOwnX 41 seE w w' X e l := by
  obtain ⟨A, c, rfl, k1, k2⟩ := hx.form
  have q := fun (w : World) (a : Option Addr) (n c n' c' : Nat) => Lib.run_eql_slice_nil (P := Try.prog) w _ _ a n c n' c' Try.underlying86
  generalize hn : l.length = n at *
  have HN := hide hn
  clear hn
  rcases A with _ | ad
  · go_enter Try.func68, Try.ntmps68
    go_wp2
    go_ret
    have h0 : l = [] := sl_none (by rw [HN.out]; exact hx)
    subst h0
    exact RetOwnX.mk (Own.nil _ _ _ _ _) (Ext.rfl' _)
  · go_enter Try.func68, Try.ntmps68
    go_wp2_with (at_builtin; refine wpList_own elt_se 86 Try.underlying86 rfl _ _ rfl (Own.lit0 (w0 := w) (X := X) _ _ (Ext.rfl' w) _ rfl (fun h => Nat.lt_irrefl _ (hX _ h))) rfl ((Ext.rfl' w).alloc' _) (m := l) rfl (Sl.apartX (w0 := w) hx ((Ext.rfl' w).alloc' _) (own_lit w)) (fun h => by have := hX _ h; simp at this; omega) (by have := HN.out; simp only [List.length_nil]; omega) (by have := HN.out; simp only [List.length_nil]; omega) ?_; intro k A2 c2 w2 hk hown hxx _)
    go_ret
    have hk' : k = l := hk.out
    subst hk'
    exact RetOwnX.mk hown hxx
theorem clone_set (x : Value) (l : List Se) (w : World) (hl : l.length ≤ 100000) (hx : Enc.Sl seE w noneAt x l) :
    Calls Try.prog 68 #[x] w fun e w' => RetOwn 41 seE w w' e l := cloneX_set noneAt w (fun _ h => h.elim) x l hl hx
set_option maxHeartbeats 800000 in
theorem cloneX_dn (X : Avoid) (w : World) (hX : ∀ k, X k → k < w.heap.size) (x : Value) (l : List Dn) (hl : l.length ≤ 100000) (hx : Enc.Sl dnE w X x l) :
    Calls Try.prog 46 #[x] w fun e w' => RetOwnX 38 dnE w w' X e l := by
  obtain ⟨A, c, rfl, k1, k2⟩ := hx.form
  have q := fun (w : World) (a : Option Addr) (n c n' c' : Nat) => Lib.run_eql_slice_nil (P := Try.prog) w _ _ a n c n' c' Try.underlying39
  generalize hn : l.length = n at *
  have HN := hide hn
  clear hn
  rcases A with _ | ad
  · go_enter Try.func46, Try.ntmps46
    go_wp2
    go_ret
    have h0 : l = [] := sl_none (by rw [HN.out]; exact hx)
    subst h0
    exact RetOwnX.mk (Own.nil _ _ _ _ _) (Ext.rfl' _)
  · go_enter Try.func46, Try.ntmps46
    go_wp2_with (at_builtin; refine wpList_own elt_dn 39 Try.underlying39 rfl _ _ rfl (Own.lit0 (w0 := w) (X := X) _ _ (Ext.rfl' w) _ rfl (fun h => Nat.lt_irrefl _ (hX _ h))) rfl ((Ext.rfl' w).alloc' _) (m := l) rfl (Sl.apartX (w0 := w) hx ((Ext.rfl' w).alloc' _) (own_lit w)) (fun h => by have := hX _ h; simp at this; omega) (by have := HN.out; simp only [List.length_nil]; omega) (by have := HN.out; simp only [List.length_nil]; omega) ?_; intro k A2 c2 w2 hk hown hxx _)
    go_ret
    have hk' : k = l := hk.out
    subst hk'
    exact RetOwnX.mk hown hxx
theorem clone_dn (x : Value) (l : List Dn) (w : World) (hl : l.length ≤ 100000) (hx : Enc.Sl dnE w noneAt x l) :
    Calls Try.prog 46 #[x] w fun e w' => RetOwn 38 dnE w w' e l := cloneX_dn noneAt w (fun _ h => h.elim) x l hl hx
end Go.Proofs.Ytamimdlaclglkaa

/- Elements of the state's slices, as a walk meets them. -/
namespace Go.Proofs.Ytamimdlaclglkaa
set_option linter.unusedVariables false
set_option linter.unusedSimpArgs false
set_option linter.unnecessarySimpa false
set_option maxRecDepth 100000
open Go.RowKit
section
variable {w : World} {X : Avoid} {A : Option Addr} {n c k : Nat}
theorem se_at {l : List Se} (h : Enc.Sl seE w X (.slice A n c) l) (hk : k < l.length) : ∃ ad s v, A = some ad ∧ Hid (l[k]? = some s) ∧ ad.block < w.heap.size ∧ w.cell? (ad.add (k * 3)) = some (.int .i64 s.client) ∧
    w.cell? ⟨(ad.add (k * 3)).block, (ad.add (k * 3)).off + 1, none⟩ = some (.int .u64 s.high) ∧ w.cell? ⟨(ad.add (k * 3)).block, (ad.add (k * 3)).off + 2, none⟩ = some v ∧ I64 s.client ∧ U64 s.high ∧ Enc.Sl dnE w X v s.done := by
  obtain ⟨ad, cs, rfl, hrep, hb, hcell⟩ := h.at_ hk
  obtain ⟨v, rfl, r1, r2, r3⟩ := se_rep.1 hrep
  exact ⟨ad, _, v, rfl, hide (List.getElem?_eq_getElem hk), hb, Enc.cell0 hcell rfl, Enc.cellS hcell 0 rfl, Enc.cellS hcell 1 rfl, r1, r2, r3⟩
theorem dn_at {l : List Dn} (h : Enc.Sl dnE w X (.slice A n c) l) (hk : k < l.length) : ∃ ad s, A = some ad ∧ Hid (l[k]? = some s) ∧ ad.block < w.heap.size ∧ w.cell? (ad.add (k * 3)) = some (.int .u64 s.seq) ∧
    w.cell? ⟨(ad.add (k * 3)).block, (ad.add (k * 3)).off + 1, none⟩ = some (.int .i64 s.an.err) ∧ w.cell? ⟨(ad.add (k * 3)).block, (ad.add (k * 3)).off + 2, none⟩ = some (str s.an.text) ∧ U64 s.seq ∧ I64 s.an.err ∧ s.an.text.length ≤ maxLen := by
  obtain ⟨ad, cs, rfl, hrep, hb, hcell⟩ := h.at_ hk
  obtain ⟨rfl, r1, r2, r3⟩ := dn_rep.1 hrep
  exact ⟨ad, _, rfl, hide (List.getElem?_eq_getElem hk), hb, Enc.cell0 hcell rfl, Enc.cellS hcell 0 rfl, Enc.cellS hcell 1 rfl, r1, r2, r3⟩
theorem ln_at {l : List Ln} (h : Enc.Sl lnE w X (.slice A n c) l) (hk : k < l.length) : ∃ ad s, A = some ad ∧ Hid (l[k]? = some s) ∧ ad.block < w.heap.size ∧ w.cell? (ad.add (k * 4)) = some (str s.name) ∧
    w.cell? ⟨(ad.add (k * 4)).block, (ad.add (k * 4)).off + 1, none⟩ = some (str s.url) ∧ w.cell? ⟨(ad.add (k * 4)).block, (ad.add (k * 4)).off + 2, none⟩ = some (.int .u64 s.till) ∧
    w.cell? ⟨(ad.add (k * 4)).block, (ad.add (k * 4)).off + 3, none⟩ = some (.bool s.made) ∧ s.name.length ≤ maxLen ∧ s.url.length ≤ maxLen ∧ U64 s.till := by
  obtain ⟨ad, cs, rfl, hrep, hb, hcell⟩ := h.at_ hk
  obtain ⟨rfl, r1, r2, r3⟩ := ln_rep.1 hrep
  exact ⟨ad, _, rfl, hide (List.getElem?_eq_getElem hk), hb, Enc.cell0 hcell rfl, Enc.cellS hcell 0 rfl, Enc.cellS hcell 1 rfl, Enc.cellS hcell 2 rfl, r1, r2, r3⟩
end
end Go.Proofs.Ytamimdlaclglkaa

