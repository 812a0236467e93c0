/- Letters that fit their bytes, and letters of few bytes. -/
import Derived.Test.YtccpbchcfgggmaaMsg2
namespace Go.Proofs.Ytccpbchcfgggmaa
set_option linter.unusedVariables false
set_option linter.unusedSimpArgs false
set_option linter.unnecessarySimpa false
set_option maxRecDepth 100000
open Go.RowKit
theorem Mg.okC {m : Mg} (hw : m.wide) (hl : m.light) (k1 : 1 ≤ m.kind) (k7 : m.kind ≤ 7) (he : m.an.err ≤ 16) (hc : m.cmd.kind ≠ 0 ∨ m.cmd = Cm.zero) (ht : ∀ e ∈ m.ents, U64 e.term) : msgC.ok m := by
  have e1 : (256 : Int) ^ 1 = 256 := rfl
  have e8 : (256 : Int) ^ 8 = 18446744073709551616 := rfl
  have hok : m.cmd.ok := ⟨hl.ck0, hl.ck1, hl.cc0, hl.cc1, hw.cmd.s0, hw.cmd.s1, by have := hl.name; omega, by have := hl.url; omega, hw.cmd.t0, hw.cmd.t1⟩
  have u8 : ∀ v : Int, U64 v → 0 ≤ v ∧ v < 256 ^ 8 := fun v h => ⟨h.1, by rw [e8]; have := h.2; omega⟩
  have hen : ∀ e ∈ m.ents, Cod.ent.ok e := fun e h => ⟨u8 _ (ht e h), by have := hl.datas e h; show e.data.length ≤ 4294967295; omega⟩
  have hcl := cput_len3 m.cmd hl.name hl.url
  refine ⟨⟨⟨by show 0 ≤ m.kind; omega, by show m.kind < 256 ^ 1; rw [e1]; omega⟩, decide_eq_false (by show ¬ (m.kind < 1 ∨ 7 < m.kind); omega)⟩, ⟨hl.f0, hl.f1⟩, ⟨hl.o0, hl.o1⟩, u8 _ hw.term, u8 _ hw.index, u8 _ hw.logTerm, u8 _ hw.commit, u8 _ hw.round, trivial,
    ⟨by have := hl.ents; show m.ents.length < 65536; omega, hen⟩, ⟨u8 _ hw.si, u8 _ hw.st, by have := hl.state; show m.snap.state.length ≤ 4294967295; omega⟩, ⟨hok, hc, by show (cput m.cmd).length ≤ 4294967295; omega⟩,
    ⟨⟨by show 0 ≤ m.an.err; exact hl.e0, by show m.an.err < 256 ^ 1; rw [e1]; omega⟩, decide_eq_false (by show ¬ (m.an.err < 0 ∨ 16 < m.an.err); have := hl.e0; omega)⟩, by have := hl.text; show m.an.text.length ≤ 4294967295; omega⟩
theorem msg_len (m : Mg) : (msgC.enc m).length = 77 + (Cod.encs Cod.ent m.ents).length + m.snap.state.length + (cput m.cmd).length + m.an.text.length := by
  rw [msg_enc]
  simp only [List.length_append, be_length, oputBytes_length, List.length_nil]
  omega
theorem ents_ge (l : List En) : 12 * l.length ≤ (Cod.encs Cod.ent l).length ∧ ∀ e ∈ l, e.data.length ≤ (Cod.encs Cod.ent l).length := by
  induction l with
  | nil => simp
  | cons a l ih =>
    rw [Cod.encs, List.length_append, ent_len, List.length_cons]
    refine ⟨by omega, fun e he => ?_⟩
    rcases List.mem_cons.1 he with rfl | he
    · omega
    · have := ih.2 e he; omega
theorem cput_ge (c : Cm) (h : c.kind ≠ 0 ∨ c = Cm.zero) : c.name.length ≤ (cput c).length ∧ c.url.length ≤ (cput c).length := by
  rcases h with h | rfl
  · unfold cput
    rw [if_neg h]
    simp [cbytes, be_length, oputBytes_length]
    omega
  · exact ⟨Nat.zero_le _, Nat.zero_le _⟩
/-- what is read of few bytes can be put -/
theorem Mg.of_ok {m : Mg} (h : msgC.ok m) (hl : (msgC.enc m).length ≤ 500) : m.wide ∧ m.light := by
  have e1 : (256 : Int) ^ 1 = 256 := rfl
  have e8 : (256 : Int) ^ 8 = 18446744073709551616 := rfl
  obtain ⟨⟨⟨k0, k1⟩, kb⟩, ⟨f0, f1⟩, ⟨o0, o1⟩, ⟨a0, a1⟩, ⟨b0, b1⟩, ⟨c0, c1⟩, ⟨d0, d1⟩, ⟨r0, r1⟩, -, ⟨hn, hen⟩, ⟨⟨i0, i1⟩, ⟨t0, t1⟩, hs⟩, ⟨hok, hc, -⟩, ⟨⟨er0, er1⟩, erb⟩, ht⟩ := h
  rw [e1] at k1 er1
  rw [e8] at a1 b1 c1 d1 r1 i1 t1
  rw [msg_len] at hl
  have g1 := ents_ge m.ents
  have g2 := cput_ge m.cmd hc
  change 0 ≤ m.kind at k0; change m.kind < 256 at k1
  change -32768 ≤ m.fro at f0; change m.fro ≤ 32767 at f1
  change -32768 ≤ m.too at o0; change m.too ≤ 32767 at o1
  change 0 ≤ m.term at a0; change m.term < _ at a1
  change 0 ≤ m.index at b0; change m.index < _ at b1
  change 0 ≤ m.logTerm at c0; change m.logTerm < _ at c1
  change 0 ≤ m.commit at d0; change m.commit < _ at d1
  change 0 ≤ m.round at r0; change m.round < _ at r1
  change 0 ≤ m.snap.index at i0; change m.snap.index < _ at i1
  change 0 ≤ m.snap.term at t0; change m.snap.term < _ at t1
  change 0 ≤ m.an.err at er0; change m.an.err < 256 at er1
  obtain ⟨q1, q2, q3, q4, q5, q6, q7, q8, q9, q10⟩ := hok
  change 0 ≤ m.cmd.kind at q1; change m.cmd.kind ≤ 255 at q2
  have hmx : maxLen = 9223372036854775807 := rfl
  refine ⟨⟨⟨by omega, by omega⟩, ⟨by omega, by omega⟩, ⟨by omega, by omega⟩, ⟨a0, by omega⟩, ⟨b0, by omega⟩, ⟨c0, by omega⟩, ⟨d0, by omega⟩, ⟨r0, by omega⟩, ⟨i0, by omega⟩, ⟨t0, by omega⟩, ⟨?_, ?_, ?_, ?_, q5, q6, ?_, ?_, q9, q10⟩, ⟨by omega, by omega⟩, by omega⟩,
    ⟨k0, by omega, f0, f1, o0, o1, by omega, fun e he => by have := g1.2 e he; omega, by omega, q1, q2, q3, q4, by omega, by omega, er0, by omega, by omega⟩⟩
  · show _ ≤ m.cmd.kind; omega
  · show m.cmd.kind ≤ _; omega
  · have : 0 ≤ m.cmd.client := q3; show _ ≤ m.cmd.client; omega
  · have : m.cmd.client ≤ 255 := q4; show m.cmd.client ≤ _; omega
  · show m.cmd.name.length ≤ _; omega
  · show m.cmd.url.length ≤ _; omega
def mg0 : Mg := { Mg0 with kind := 1, fro := 1, too := -2, term := 5 }
theorem mg0_wide : mg0.wide := by
  constructor <;> first | exact ⟨by decide, by decide⟩ | (constructor <;> simp [mg0, Mg0, Cm.zero]) | simp [mg0, Mg0]
theorem mg0_light : mg0.light := by constructor <;> simp [mg0, Mg0, Cm.zero, Sn0]
theorem mg0_ok : msgC.ok mg0 := Mg.okC mg0_wide mg0_light (by decide) (by decide) (by decide) (.inr rfl) (by simp [mg0, Mg0])
theorem mg0_len : (msgC.enc mg0).length = 77 := by rw [msg_len]; simp [mg0, Mg0, Cod.encs, Sn0, cput, Cm.zero]
theorem Sl.terms {w : World} {X : Avoid} {x : Value} {l : List En} (h : Enc.Sl enE w X x l) : ∀ e ∈ l, U64 e.term := by
  intro e he
  obtain ⟨k, hk⟩ := List.mem_iff_getElem?.1 he
  obtain ⟨A, c, rfl, -, -⟩ := h.form
  obtain ⟨ad, e', v, -, h1, -, -, -, h2, -⟩ := en_at h (k := k) (List.getElem?_eq_some_iff.1 hk).1
  rw [Option.some.inj (hk.symm.trans h1.out)]
  exact h2
end Go.Proofs.Ytccpbchcfgggmaa
