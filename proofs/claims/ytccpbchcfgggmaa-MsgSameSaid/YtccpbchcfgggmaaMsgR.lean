/- Letters that are light are told apart by their bytes. -/
import Derived.Test.YtccpbchcfgggmaaMsgQ
namespace Go.Proofs.Ytccpbchcfgggmaa
set_option linter.unusedVariables false
set_option linter.unusedSimpArgs false
set_option linter.unnecessarySimpa false
set_option maxRecDepth 100000
open Go.RowKit
theorem Mg.okW {m : Mg} (hw : m.wide) (hl : m.light) (hc : m.cmd.kind ≠ 0 ∨ m.cmd = Cm.zero) (ht : ∀ e ∈ m.ents, U64 e.term) : msgW.ok m := by
  have e1 : (256 : Int) ^ 1 = 256 := rfl
  have e8 : (256 : Int) ^ 8 = 18446744073709551616 := rfl
  have hok : m.cmd.ok := ⟨hl.ck0, hl.ck1, hl.cc0, hl.cc1, hw.cmd.s0, hw.cmd.s1, by have := hl.name; omega, by have := hl.url; omega, hw.cmd.t0, hw.cmd.t1⟩
  have u8 : ∀ v : Int, U64 v → 0 ≤ v ∧ v < 256 ^ 8 := fun v h => ⟨h.1, by rw [e8]; have := h.2; omega⟩
  have hen : ∀ e ∈ m.ents, Cod.ent.ok e := fun e h => ⟨u8 _ (ht e h), by have := hl.datas e h; show e.data.length ≤ 4294967295; omega⟩
  have hcl := cput_len3 m.cmd hl.name hl.url
  refine ⟨⟨by show 0 ≤ m.kind; exact hl.k0, by show m.kind < 256 ^ 1; rw [e1]; have := hl.k1; omega⟩, ⟨hl.f0, hl.f1⟩, ⟨hl.o0, hl.o1⟩, u8 _ hw.term, u8 _ hw.index, u8 _ hw.logTerm, u8 _ hw.commit, u8 _ hw.round, trivial,
    ⟨by have := hl.ents; show m.ents.length < 65536; omega, hen⟩, ⟨u8 _ hw.si, u8 _ hw.st, by have := hl.state; show m.snap.state.length ≤ 4294967295; omega⟩, ⟨hok, hc, by show (cput m.cmd).length ≤ 4294967295; omega⟩,
    ⟨by show 0 ≤ m.an.err; exact hl.e0, by show m.an.err < 256 ^ 1; rw [e1]; have := hl.e1; omega⟩, by have := hl.text; show m.an.text.length ≤ 4294967295; omega⟩
theorem Mg.enc_iff {m n : Mg} (hm : msgW.ok m) (hn : msgW.ok n) : msgC.enc m = msgC.enc n ↔ m = n :=
  ⟨fun h => Cod.enc_inj msgW hm hn h, fun h => by rw [h]⟩
end Go.Proofs.Ytccpbchcfgggmaa
