/- Letters in plain Lean: their bytes, and which letters bytes are. -/
import Derived.Test.YtccpbchcfgggmaaCod
import Derived.Test.YtccpbchcfgggmaaLogP
import Derived.Test.YtccpbchcfgggmaaAn
namespace Go.Proofs.Ytccpbchcfgggmaa
set_option linter.unusedVariables false
set_option linter.unusedSimpArgs false
set_option linter.unnecessarySimpa false
set_option maxRecDepth 100000
open Go.RowKit
structure Mg where
  kind : Int
  fro : Int
  too : Int
  term : Int
  index : Int
  logTerm : Int
  ents : List En
  commit : Int
  round : Int
  ok : Bool
  snap : Sn
  cmd : Cm
  an : An
def Mg0 : Mg := ⟨0, 0, 0, 0, 0, 0, [], 0, 0, false, Sn0, Cm.zero, ⟨0, []⟩⟩
/-- two bytes as a number below and above nought -/
def sign2 (v : Int) : Int := if 32768 ≤ v then v - 65536 else v
namespace Cod
def numB (n : Nat) (lo hi : Int) : Cod Int := (num n).form fun v => decide (v < lo ∨ hi < v)
def flag : Cod Bool := (numB 1 0 1).map (fun v => decide (v = 1)) (fun b => if b = true then 1 else 0) (fun _ => True)
  (fun b _ => by
    cases b
    · exact ⟨⟨(by show (0 : Int) ≤ 0 ∧ (0 : Int) < 256 ^ 1; decide), rfl⟩, rfl⟩
    · exact ⟨⟨(by show (0 : Int) ≤ 1 ∧ (1 : Int) < 256 ^ 1; decide), rfl⟩, rfl⟩)
  (fun a h => ⟨trivial, by
    have h1 := of_decide_eq_false h.2
    by_cases h2 : a = 1
    · simp [h2]
    · simp [h2]; omega⟩)
def place : Cod Int := (num 2).map sign2 (fun v => v % 65536) (fun v => -32768 ≤ v ∧ v ≤ 32767)
  (fun b h => ⟨⟨by omega, by have e : (256 : Int) ^ 2 = 65536 := rfl; rw [e]; omega⟩, by unfold sign2; split <;> omega⟩)
  (fun a h => by
    have e : (256 : Int) ^ 2 = 65536 := rfl
    obtain ⟨h1, h2⟩ := h
    rw [e] at h2
    unfold sign2
    split
    · exact ⟨⟨by omega, by omega⟩, by omega⟩
    · exact ⟨⟨by omega, by omega⟩, by omega⟩)
def ent : Cod En := (pair (num 8) text).map (fun p => ⟨p.1, p.2⟩) (fun e => (e.term, e.data)) (fun e => (pair (num 8) text).ok (e.term, e.data)) (fun _ h => ⟨h, rfl⟩) (fun _ h => ⟨h, rfl⟩)
def snC : Cod Sn := (pair (num 8) (pair (num 8) text)).map (fun p => ⟨p.1, p.2.1, p.2.2⟩) (fun e => (e.index, e.term, e.state)) (fun e => (pair (num 8) (pair (num 8) text)).ok (e.index, e.term, e.state)) (fun _ h => ⟨h, rfl⟩) (fun _ h => ⟨h, rfl⟩)
theorem ctake_nil : ctake [] = (Cm.zero, 0) := if_pos rfl
theorem ctake_kind (b : Bytes) (h : (ctake b).2 = 0) : (ctake b).1.kind ≠ 0 ∨ (ctake b).1 = Cm.zero := by
  unfold ctake at *
  by_cases hb : b = []
  · rw [if_pos hb]; exact .inr rfl
  · rw [if_neg hb] at *
    by_cases he : (pall (b, 0)).2.2 = 0
    · rw [if_pos he]
      exact .inl (pall_inv b he).2.2
    · rw [if_neg he] at h; exact absurd h he
theorem ctake_cput {c : Cm} (h : c.ok) (hk : c.kind ≠ 0 ∨ c = Cm.zero) : ctake (cput c) = (c, 0) := by
  rcases hk with hk | rfl
  · exact ctake_put c h hk
  · exact ctake_nil
def cmd : Cod Cm where
  P s := if (ptext s).2.2 = 0 then ((ctake (ptext s).1).1, pform (decide ((ctake (ptext s).1).2 ≠ 0)) (ptext s).2) else (Cm.zero, (ptext s).2)
  enc c := oputBytes [] (cput c)
  ok c := c.ok ∧ (c.kind ≠ 0 ∨ c = Cm.zero) ∧ (cput c).length ≤ 4294967295
  put c r h := by
    rw [ptext_put _ r h.2.2]
    simp only [if_true, ctake_cput h.1 h.2.1]
    simp [pform_no]
  cut c p h hp := by
    rw [ptext_short _ p h.2.2 (by rw [oputBytes_length] at hp; simpa using hp)]
    rw [if_neg (by simp)]
  err s h := by
    rw [ptext_bad s h, if_neg h]
  inv s h := by
    by_cases h1 : (ptext s).2.2 = 0
    · rw [if_pos h1] at h ⊢
      obtain ⟨h2, h3, h4⟩ := pform_inv _ _ h
      have h5 : (ctake (ptext s).1).2 = 0 := by simpa using h3
      have h6 := cput_take _ h5
      have h7 := ptext_inv s h1
      rw [h4]
      simp only
      rw [h6.1]
      exact ⟨h7.2.1, h6.2, ctake_kind _ h5, h7.2.2⟩
    · rw [if_neg h1] at h
      exact absurd h h1
abbrev MT := Int × Int × Int × Int × Int × Int × Int × Int × Bool × List En × Sn × Cm × Int × Bytes
def msgI (kc ec : Cod Int) : Cod MT :=
  pair kc (pair place (pair place (pair (num 8) (pair (num 8) (pair (num 8) (pair (num 8) (pair (num 8) (pair flag (pair (list ent) (pair snC (pair cmd (pair ec text))))))))))))
end Cod
def Mg.of (t : Cod.MT) : Mg := ⟨t.1, t.2.1, t.2.2.1, t.2.2.2.1, t.2.2.2.2.1, t.2.2.2.2.2.1, t.2.2.2.2.2.2.2.2.2.1, t.2.2.2.2.2.2.1, t.2.2.2.2.2.2.2.1, t.2.2.2.2.2.2.2.2.1, t.2.2.2.2.2.2.2.2.2.2.1, t.2.2.2.2.2.2.2.2.2.2.2.1, ⟨t.2.2.2.2.2.2.2.2.2.2.2.2.1, t.2.2.2.2.2.2.2.2.2.2.2.2.2⟩⟩
def Mg.to (m : Mg) : Cod.MT := (m.kind, m.fro, m.too, m.term, m.index, m.logTerm, m.commit, m.round, m.ok, m.ents, m.snap, m.cmd, m.an.err, m.an.text)
/-- letters -/
def msgC : Cod Mg := (Cod.msgI (Cod.numB 1 1 7) (Cod.numB 1 0 16)).map Mg.of Mg.to (fun m => (Cod.msgI (Cod.numB 1 1 7) (Cod.numB 1 0 16)).ok m.to) (fun _ h => ⟨h, rfl⟩) (fun _ h => ⟨h, rfl⟩)
/-- the same, of any kind and error -/
def msgW : Cod Mg := (Cod.msgI (Cod.num 1) (Cod.num 1)).map Mg.of Mg.to (fun m => (Cod.msgI (Cod.num 1) (Cod.num 1)).ok m.to) (fun _ h => ⟨h, rfl⟩) (fun _ h => ⟨h, rfl⟩)
theorem msgW_enc (m : Mg) : msgW.enc m = msgC.enc m := rfl
def mtake (b : Bytes) : Mg × Int := if (msgC.all (b, 0)).2.2 = 0 then ((msgC.all (b, 0)).1, 0) else (Mg0, (msgC.all (b, 0)).2.2)
theorem mtake_put {m : Mg} (h : msgC.ok m) : mtake (msgC.enc m) = (m, 0) := by
  have h1 := msgC.all_put m [] h
  rw [List.append_nil] at h1
  unfold mtake
  rw [h1]
  rfl
theorem mtake_more {m : Mg} (h : msgC.ok m) (x : UInt8) : mtake (msgC.enc m ++ [x]) = (Mg0, 2) := by
  have h1 := msgC.all_put m [x] h
  unfold mtake
  rw [h1]
  rfl
theorem mtake_cut {m : Mg} (h : msgC.ok m) (p : Nat) (hp : p < (msgC.enc m).length) : mtake ((msgC.enc m).take p) = (Mg0, 3) := by
  have h1 := msgC.all_cut m p h hp
  unfold mtake
  rw [h1]
  rfl
theorem mtake_inv {b : Bytes} (h : (mtake b).2 = 0) : msgC.enc (mtake b).1 = b ∧ msgC.ok (mtake b).1 := by
  unfold mtake at *
  by_cases h1 : (msgC.all (b, 0)).2.2 = 0
  · rw [if_pos h1]
    have h2 := msgC.all_inv b h1
    exact ⟨h2.1.symm, h2.2⟩
  · rw [if_neg h1] at h
    exact absurd h h1
end Go.Proofs.Ytccpbchcfgggmaa
