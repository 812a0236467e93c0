/- law17.may. -/
import Derived.Test.YtccpbchcfgggmaaCmd6
namespace Go.Proofs.Ytccpbchcfgggmaa
set_option linter.unusedVariables false
set_option linter.unusedSimpArgs false
set_option linter.unnecessarySimpa false
set_option maxRecDepth 100000
open Go.RowKit
structure Cm.wide (c : Cm) : Prop where
  k0 : -9223372036854775808 ≤ c.kind
  k1 : c.kind ≤ 9223372036854775807
  c0 : -9223372036854775808 ≤ c.client
  c1 : c.client ≤ 9223372036854775807
  s0 : 0 ≤ c.seq
  s1 : c.seq ≤ 18446744073709551615
  n1 : c.name.length ≤ maxLen
  u1 : c.url.length ≤ maxLen
  t0 : 0 ≤ c.till
  t1 : c.till ≤ 18446744073709551615
structure Cm.fit (c : Cm) : Prop where
  ok : c.ok
  n1 : c.name.length ≤ 100
  u1 : c.url.length ≤ 500
def RetMay (c : Cm) (w : World) (e : Ending) (w' : World) : Prop := ∃ r : Bool, e = .returned (.bool r) ∧ (r = true → c.fit) ∧ Ext w w'
set_option maxHeartbeats 800000 in
theorem may17_b (c : Cm) (h : c.wide) (w : World) : Calls Try.prog 12 #[cv c] w fun e w' => RetMay c w e w' := by
  obtain ⟨kind, client, seq, name, url, till⟩ := c
  obtain ⟨k0, k1, c0, c1, s0, s1, n1, u1, t0, t1⟩ := h
  simp only at k0 k1 c0 c1 s0 s1 n1 u1 t0 t1
  have ln : (ByteArray.mk name.toArray).size = name.length := by simp [ByteArray.size]
  have lu : (ByteArray.mk url.toArray).size = url.length := by simp [ByteArray.size]
  have hx : Ext w (w.alloc (.cells (ccells ⟨kind, client, seq, name, url, till⟩) 24)) := (Ext.rfl' w).alloc' _
  by_cases hc : (0 ≤ kind ∧ kind < 256) ∧ (0 ≤ client ∧ client < 256) ∧ (name.length : Int) ≤ 100 ∧ (url.length : Int) ≤ 500
  · have hf : Cm.fit ⟨kind, client, seq, name, url, till⟩ := ⟨⟨hc.1.1, by show kind ≤ 255; omega, hc.2.1.1, by show client ≤ 255; omega, s0, s1, by show name.length ≤ _; omega, by show url.length ≤ _; omega, t0, t1⟩, by show name.length ≤ _; omega, by show url.length ≤ _; omega⟩
    obtain ⟨⟨p1, p2⟩, ⟨p3, p4⟩, p5, p6⟩ := hc
    have HF := hide hf
    clear hf
    go_enter Try.func12, Try.ntmps12
    go_wp2
    go_ret
    exact ⟨true, rfl, fun _ => HF.out, hx⟩
  · have key : ∀ r : Bool, r = false → (r = true → Cm.fit ⟨kind, client, seq, name, url, till⟩) := by intro r h1 h2; rw [h1] at h2; cases h2
    by_cases p1 : 0 ≤ kind
    · by_cases p2 : kind < 256
      · by_cases p3 : 0 ≤ client
        · by_cases p4 : client < 256
          · by_cases p5 : (name.length : Int) ≤ 100
            · have p6 : ¬ (url.length : Int) ≤ 500 := fun p6 => hc ⟨⟨p1, p2⟩, ⟨p3, p4⟩, p5, p6⟩
              clear hc
              go_enter Try.func12, Try.ntmps12
              go_wp2
              go_ret
              exact ⟨false, rfl, key _ rfl, hx⟩
            · clear hc
              go_enter Try.func12, Try.ntmps12
              go_wp2
              go_ret
              exact ⟨false, rfl, key _ rfl, hx⟩
          · clear hc
            go_enter Try.func12, Try.ntmps12
            go_wp2
            go_ret
            exact ⟨false, rfl, key _ rfl, hx⟩
        · clear hc
          go_enter Try.func12, Try.ntmps12
          go_wp2
          go_ret
          exact ⟨false, rfl, key _ rfl, hx⟩
      · clear hc
        go_enter Try.func12, Try.ntmps12
        go_wp2
        go_ret
        exact ⟨false, rfl, key _ rfl, hx⟩
    · clear hc
      go_enter Try.func12, Try.ntmps12
      go_wp2
      go_ret
      exact ⟨false, rfl, key _ rfl, hx⟩
end Go.Proofs.Ytccpbchcfgggmaa
