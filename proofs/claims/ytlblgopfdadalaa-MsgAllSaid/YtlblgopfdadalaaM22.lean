/- A part of the proof of 'MsgAll'. -/
import Derived.Test.YtlblgopfdadalaaM20
import Derived.Test.YtlblgopfdadalaaM14
import Derived.Test.YtlblgopfdadalaaM1
namespace Go.Proofs.Ytlblgopfdadalaa
set_option linter.unusedVariables false
set_option linter.unusedSimpArgs false
set_option linter.unnecessarySimpa false
set_option maxRecDepth 100000
open Go.RowKit
/-- a Bool that is true only if P -/
def RetB (P : Prop) (w w' : World) (e : Ending) : Prop := ∃ b : Bool, e = .returned (.bool b) ∧ Ext w w' ∧ (b = true → P)
set_option maxHeartbeats 12800000 in
theorem light_b (m : Mg) (ve vs : Value) (w : World) (h1 : Enc.Sl enE w noneAt ve m.ents) (h2 : Bs w vs m.snap.state) (hw : m.wide) :
    Calls Try.prog 6 #[.agg (mgcells m ve vs).toArray] w fun e w' => RetB m.light w w' e := by
  obtain ⟨Ae, ce, rfl, k1, k2⟩ := h1.form
  obtain ⟨As, cs, rfl, k3, k4, -⟩ := id h2
  unfold maxLen at k2 k4
  have hn1 : m.cmd.name.length ≤ 9223372036854775807 := hw.cmd.n1
  have hn2 : m.cmd.url.length ≤ 9223372036854775807 := hw.cmd.u1
  have hn3 : m.an.text.length ≤ 9223372036854775807 := hw.text
  go_enter Try.func6, Try.ntmps6
  repeat (first | with_reducible refine one_stop ?_ | go_step)
  intro W g hg hA hx
  subst hg
  have a0 : W.cell? ⟨w.heap.size, 0, none⟩ = some (.int .i64 m.kind) := (hA.cell 0).trans rfl
  have a1 : W.cell? ⟨w.heap.size, 1, none⟩ = some (.int .i64 m.fro) := (hA.cell 1).trans rfl
  have a2 : W.cell? ⟨w.heap.size, 2, none⟩ = some (.int .i64 m.too) := (hA.cell 2).trans rfl
  have a6 : W.cell? ⟨w.heap.size, 6, none⟩ = some (.slice Ae m.ents.length ce) := (hA.cell 6).trans rfl
  have a12 : W.cell? ⟨w.heap.size, 12, none⟩ = some (.slice As m.snap.state.length cs) := (hA.cell 12).trans rfl
  have a13 : W.cell? ⟨w.heap.size, 13, none⟩ = some (.int .i64 m.cmd.kind) := (hA.cell 13).trans rfl
  have a14 : W.cell? ⟨w.heap.size, 14, none⟩ = some (.int .i64 m.cmd.client) := (hA.cell 14).trans rfl
  have a16 : W.cell? ⟨w.heap.size, 16, none⟩ = some (str m.cmd.name) := (hA.cell 16).trans rfl
  have a17 : W.cell? ⟨w.heap.size, 17, none⟩ = some (str m.cmd.url) := (hA.cell 17).trans rfl
  have a19 : W.cell? ⟨w.heap.size, 19, none⟩ = some (.int .i64 m.an.err) := (hA.cell 19).trans rfl
  have a20 : W.cell? ⟨w.heap.size, 20, none⟩ = some (str m.an.text) := (hA.cell 20).trans rfl
  rcases Bool.eq_false_or_eq_true (decide (m.kind < 0)) with c0 | c0
  · go_wp2
    go_ret
    exact ⟨false, rfl, hx, fun h => by cases h⟩
  rcases Bool.eq_false_or_eq_true (decide (255 < m.kind)) with c1 | c1
  · go_wp2
    go_ret
    exact ⟨false, rfl, hx, fun h => by cases h⟩
  rcases Bool.eq_false_or_eq_true (decide ((20 : Int) < m.ents.length)) with c2 | c2
  · go_wp2
    go_ret
    exact ⟨false, rfl, hx, fun h => by cases h⟩
  rcases Bool.eq_false_or_eq_true (decide ((400 : Int) < m.snap.state.length)) with c3 | c3
  · go_wp2
    go_ret
    exact ⟨false, rfl, hx, fun h => by cases h⟩
  rcases Bool.eq_false_or_eq_true (decide ((100 : Int) < m.cmd.name.length)) with c4 | c4
  · go_wp2
    go_ret
    exact ⟨false, rfl, hx, fun h => by cases h⟩
  rcases Bool.eq_false_or_eq_true (decide ((500 : Int) < m.cmd.url.length)) with c5 | c5
  · go_wp2
    go_ret
    exact ⟨false, rfl, hx, fun h => by cases h⟩
  rcases Bool.eq_false_or_eq_true (decide ((500 : Int) < m.an.text.length)) with c6 | c6
  · go_wp2
    go_ret
    exact ⟨false, rfl, hx, fun h => by cases h⟩
  rcases Bool.eq_false_or_eq_true (decide (m.cmd.kind < 0)) with c7 | c7
  · go_wp2
    go_ret
    exact ⟨false, rfl, hx, fun h => by cases h⟩
  rcases Bool.eq_false_or_eq_true (decide (255 < m.cmd.kind)) with c8 | c8
  · go_wp2
    go_ret
    exact ⟨false, rfl, hx, fun h => by cases h⟩
  rcases Bool.eq_false_or_eq_true (decide (m.cmd.client < 0)) with c9 | c9
  · go_wp2
    go_ret
    exact ⟨false, rfl, hx, fun h => by cases h⟩
  rcases Bool.eq_false_or_eq_true (decide (255 < m.cmd.client)) with c10 | c10
  · go_wp2
    go_ret
    exact ⟨false, rfl, hx, fun h => by cases h⟩
  rcases Bool.eq_false_or_eq_true (decide (m.an.err < 0)) with c11 | c11
  · go_wp2
    go_ret
    exact ⟨false, rfl, hx, fun h => by cases h⟩
  rcases Bool.eq_false_or_eq_true (decide (255 < m.an.err)) with c12 | c12
  · go_wp2
    go_ret
    exact ⟨false, rfl, hx, fun h => by cases h⟩
  go_upto_region 3 with fail
  replace c0 := of_decide_eq_false c0
  replace c1 := of_decide_eq_false c1
  replace c2 := of_decide_eq_false c2
  replace c3 := of_decide_eq_false c3
  replace c4 := of_decide_eq_false c4
  replace c5 := of_decide_eq_false c5
  replace c6 := of_decide_eq_false c6
  replace c7 := of_decide_eq_false c7
  replace c8 := of_decide_eq_false c8
  replace c9 := of_decide_eq_false c9
  replace c10 := of_decide_eq_false c10
  replace c11 := of_decide_eq_false c11
  replace c12 := of_decide_eq_false c12
  have HC := hide (And.intro c0 (And.intro c1 (And.intro c2 (And.intro c3 (And.intro c4 (And.intro c5 (And.intro c6 (And.intro c7 (And.intro c8 (And.intro c9 (And.intro c10 (And.intro c11 c12))))))))))))
  clear c0 c1 c2 c3 c4 c5 c6 c7 c8 c9 c10 c11 c12
  clear a0 a12 a13 a14 a16 a17 a19 a20
  go_wp2_with fail
  go_loopw [3] (fun vi wr => ∃ k : Nat, (k : Int) ≤ m.ents.length ∧ vi = .int .i64 k ∧ Hid (∀ r ∈ m.ents.take k, r.data.length ≤ 500) ∧ Ext W wr) (fun vi _ => (m.ents.length - intOf vi).toNat)
  case atStart => exact ⟨0, by omega, rfl, hide (by simp), Ext.rfl' _⟩
  case round =>
    obtain ⟨k, hk, rfl, hs, hxr⟩ := hrel
    have hxw := hx.trans' hxr
    replace a1 := (hxr.cell (p := ⟨w.heap.size, 1, none⟩) hA.lt).trans a1
    replace a2 := (hxr.cell (p := ⟨w.heap.size, 2, none⟩) hA.lt).trans a2
    replace a6 := (hxr.cell (p := ⟨w.heap.size, 6, none⟩) hA.lt).trans a6
    by_cases hlt : (k : Int) < m.ents.length
    · have HLT := hide hlt
      obtain ⟨ad, r, v, rfl, hr, hb, p0, p1, r1, r2⟩ := en_at (h1.ext hxw) (k := k) (by omega)
      obtain ⟨A1, c1, rfl, -, -, -⟩ := id r2.1
      rcases Bool.eq_false_or_eq_true (decide ((100 : Int) < r.data.length)) with c1 | c1
      · go_wp2
        go_ret
        exact ⟨false, rfl, hxw, fun h => by cases h⟩
      have HS : Hid (∀ r ∈ m.ents.take (k + 1), r.data.length ≤ 500) := by
        have c2 := of_decide_eq_false c1
        intro q hq
        rw [take_snoc hr.out] at hq
        rcases List.mem_append.1 hq with h | h
        · exact hs.out q h
        · rw [List.mem_singleton.1 h]
          omega
      go_wp2
      go_roundw
      case rel => exact ⟨k + 1, by have := HLT.out; omega, by go_num, HS, hxr⟩
      case measure => have := HLT.out; simp [intOf]; omega
    · obtain rfl : k = m.ents.length := by omega
      have HS := hs
      rw [List.take_length] at HS
      rcases Bool.eq_false_or_eq_true (decide (-32768 ≤ m.fro)) with d0 | d0
      · rcases Bool.eq_false_or_eq_true (decide (m.fro ≤ 32767)) with d1 | d1
        · rcases Bool.eq_false_or_eq_true (decide (-32768 ≤ m.too)) with d2 | d2
          · rcases Bool.eq_false_or_eq_true (decide (m.too ≤ 32767)) with d3 | d3
            · go_wp2
              go_ret
              obtain ⟨q0, q1, q2, q3, q4, q5, q6, q7, q8, q9, q10, q11, q12⟩ := HC.out
              exact ⟨true, rfl, hxw, fun _ => ⟨by omega, by omega, of_decide_eq_true d0, of_decide_eq_true d1, of_decide_eq_true d2, of_decide_eq_true d3, by omega, HS.out, by omega, by omega, by omega, by omega, by omega, by omega, by omega, by omega, by omega, by omega⟩⟩
            · go_wp2
              go_ret
              exact ⟨false, rfl, hxw, fun h => by cases h⟩
          · go_wp2
            go_ret
            exact ⟨false, rfl, hxw, fun h => by cases h⟩
        · go_wp2
          go_ret
          exact ⟨false, rfl, hxw, fun h => by cases h⟩
      · go_wp2
        go_ret
        exact ⟨false, rfl, hxw, fun h => by cases h⟩
end Go.Proofs.Ytlblgopfdadalaa
namespace Go.Proofs.Ytlblgopfdadalaa
set_option linter.unusedVariables false
set_option linter.unusedSimpArgs false
set_option linter.unnecessarySimpa false
set_option maxRecDepth 100000
open Go.RowKit
/-- the answer is whether p -/
def RetIs (p : Prop) (w w' : World) (e : Ending) : Prop := ∃ b : Bool, e = .returned (.bool b) ∧ Ext w w' ∧ Hid (b = true ↔ p)
theorem RetIs.yes {p : Prop} {w w' : World} (hx : Ext w w') (h : p) : RetIs p w w' (.returned (.bool true)) := ⟨true, rfl, hx, hide (by simp [h])⟩
theorem RetIs.no {p : Prop} {w w' : World} (hx : Ext w w') (h : ¬ p) : RetIs p w w' (.returned (.bool false)) := ⟨false, rfl, hx, hide (by simp [h])⟩
theorem RetIs.to {p q : Prop} {w w' : World} {e : Ending} (h : RetIs p w w' e) (hi : p ↔ q) : RetIs q w w' e := by
  obtain ⟨b, h1, h2, h3⟩ := h
  exact ⟨b, h1, h2, hide (h3.out.trans hi)⟩
end Go.Proofs.Ytlblgopfdadalaa
