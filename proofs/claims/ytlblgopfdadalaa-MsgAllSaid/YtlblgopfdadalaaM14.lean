/- A part of the proof of 'MsgAll'. -/
import Derived.Test.YtlblgopfdadalaaM13
import Derived.Test.YtlblgopfdadalaaM2
namespace Go.Proofs.Ytlblgopfdadalaa
set_option linter.unusedVariables false
set_option linter.unusedSimpArgs false
set_option linter.unnecessarySimpa false
set_option maxRecDepth 100000
open Go.RowKit
/-- a Bool is handed over that tells whether p -/
def RetIff (e : Ending) (p : Prop) : Prop := ∃ r : Bool, e = .returned (.bool r) ∧ (r = true ↔ p)
theorem eq_ans (a b : An) : ∃ r : Bool, (r = true ↔ a = b) ∧ ∀ W, (binOp .eql 31 (.agg (acells a).toArray) (.agg (acells b).toArray)).run Try.prog W = .ok (.bool r) W := by
  obtain ⟨e, t⟩ := a
  obtain ⟨e', t'⟩ := b
  refine ⟨decide (e = e') && decide (t = t'), by simp, fun W => ?_⟩
  have hS : Try.prog.underlying 31 = some (.struct (Try.prog.fieldsOf 31)) := by kernel_rfl
  have hp : Try.prog.stoodInHeld 31 = false := by kernel_rfl
  have u1 := Try.underlying29
  have u3 := Try.underlying9
  rw [run_eql_struct, show (10000 : Nat) = 9999 + 1 from rfl, run_equalIn_agg W 9999 31 _ _ hS hp]
  simp only [Program.fieldsOf, Try.underlying31]
  go_simp
  by_cases h1 : e = e' <;> by_cases h2 : t = t' <;> simp [h1, h2]
theorem equal_b (x y : Value) (a b : Bytes) (w : World) (hx : Bs w x a) (hy : Bs w y b) : Calls Try.prog 47 #[x, y] w fun e w' => e = .returned (.bool (decide (a = b))) ∧ w' = w := by
  have h1 := run_str (P := Try.prog) hx Try.underlying24 Try.underlying5 Try.underlying9
  have h2 := run_str (P := Try.prog) hy Try.underlying24 Try.underlying5 Try.underlying9
  go_enter Try.func47, Try.ntmps47
  go_wp2
  go_ret
  refine ⟨?_, rfl⟩
  by_cases h : a = b
  · subst h; simp
  · simp [h, str]
theorem sameEn_b (m n : En) (x y : Value) (w : World) (hx : Bs w x m.data) (hy : Bs w y n.data) : Calls Try.prog 49 #[.agg #[.int .u64 m.term, x], .agg #[.int .u64 n.term, y]] w fun e w' => RetIff e (m = n) ∧ Ext w w' := by
  obtain ⟨tm, d⟩ := m
  obtain ⟨tn, d'⟩ := n
  obtain ⟨A1, c1, rfl, -, -, -⟩ := id hx
  obtain ⟨A2, c2, rfl, -, -, -⟩ := id hy
  simp only at *
  by_cases ht : tm = tn
  · subst ht
    have hx2 : Ext w ((w.alloc (.cells #[.int .u64 tm, .slice A1 d.length c1] 74)).alloc (.cells #[.int .u64 tm, .slice A2 d'.length c2] 74)) := ((Ext.rfl' w).alloc' _).alloc' _
    have HE := hide (equal_b _ _ _ _ _ (hx.ext hx2) (hy.ext hx2))
    go_enter Try.func49, Try.ntmps49
    go_wp2_with fail
    refine HE.out.mono ?_
    rintro e W ⟨rfl, rfl⟩
    go_wp2_with fail
    go_ret
    exact ⟨⟨_, rfl, by simp⟩, hx2⟩
  · go_enter Try.func49, Try.ntmps49
    go_wp2_with fail
    go_ret
    exact ⟨⟨_, rfl, by simp [ht]⟩, ((Ext.rfl' w).alloc' _).alloc' _⟩
theorem eqf_b (x y : Value) (l m : List En) (w : World) (hx : Enc.Sl enE w noneAt x l) (hy : Enc.Sl enE w noneAt y m) :
    Calls Try.prog 48 #[x, y, .func (.func 49) #[] #[]] w fun e w' => RetIff e (l = m) ∧ Ext w w' := by
  obtain ⟨A, c, rfl, k1, k2⟩ := hx.form
  obtain ⟨B, d, rfl, k3, k4⟩ := hy.form
  unfold maxLen at k2 k4
  by_cases hl : (l.length : Int) = m.length
  · have HL := hide (show l.length = m.length by omega)
    go_enter Try.func48, Try.ntmps48
    go_wp2_with fail
    go_loopw [17] (fun vi wr => ∃ k : Nat, (k : Int) ≤ l.length ∧ vi = .int .i64 k ∧ Hid (l.take k = m.take k) ∧ Ext w wr) (fun vi _ => (l.length - intOf vi).toNat)
    case atStart => exact ⟨0, by omega, rfl, hide rfl, Ext.rfl' _⟩
    case round =>
      obtain ⟨k, hk, rfl, HT, hxr⟩ := hrel
      by_cases hlt : (k : Int) < l.length
      · have HLT := hide hlt
        obtain ⟨ad, e, v1, rfl, he, hb, p0, p1, -, r1⟩ := en_at (hx.ext hxr) (k := k) (by omega)
        obtain ⟨ad2, e2, v2, rfl, he2, hb2, q0, q1, -, r2⟩ := en_at (hy.ext hxr) (k := k) (by have := HL.out; omega)
        obtain ⟨A1, c1, rfl, -, -, -⟩ := id r1.1
        obtain ⟨A2, c2, rfl, -, -, -⟩ := id r2.1
        have hlt2 : (k : Int) < m.length := by have := HL.out; omega
        have hab : (ad.add (k * 2)).block < wr.heap.size := by rw [block_of_add]; exact hb
        have hab2 : (ad2.add (k * 2)).block < wr.heap.size := by rw [block_of_add]; exact hb2
        go_upto_region 7 with fail
        have hxA : Ext wr ((wr.alloc (.cells #[.int .u64 e.term, .slice A1 e.data.length c1] 74)).alloc (.cells #[.int .u64 e2.term, .slice A2 e2.data.length c2] 74)) := ((Ext.rfl' wr).alloc' _).alloc' _
        have HS := hide (sameEn_b e e2 _ _ _ (r1.1.ext hxA) (r2.1.ext hxA))
        go_wp2_with fail
        refine HS.out.mono ?_
        rintro e9 W ⟨⟨r, rfl, hr⟩, hxw⟩
        have HR := hide hr
        clear hr
        cases r with
        | false =>
          have hne : ¬ l = m := fun h => by
            have h1 : e = e2 := by
              have h2 := he.out
              rw [h] at h2
              exact Option.some.inj (h2.symm.trans he2.out)
            exact absurd (HR.out.2 h1) (by simp)
          go_wp2_with fail
          go_ret
          exact ⟨⟨_, rfl, by simp [hne]⟩, hxr.trans' (hxA.trans' hxw)⟩
        | true =>
          have hee := HR.out.1 rfl
          go_wp2_with fail
          go_roundw
          case rel => exact ⟨k + 1, by have := HLT.out; omega, by go_num, hide (by rw [take_snoc he.out, take_snoc he2.out, HT.out, hee]), hxr.trans' (hxA.trans' hxw)⟩
          case measure => have := HLT.out; simp [intOf]; omega
      · have hke : k = l.length := by omega
        have hf : Hid (l = m) := hide (by
          have h1 := HT.out
          rw [hke] at h1
          rw [List.take_length, List.take_of_length_le (by rw [HL.out]; exact Nat.le_refl _)] at h1
          exact h1)
        clear hke
        have hlt2 : ¬ (k : Int) < m.length := by have := HL.out; omega
        go_wp2_with fail
        go_ret
        exact ⟨⟨_, rfl, by simp [hf.out]⟩, hxr⟩
  · have hne : ¬ l = m := fun h => hl (by rw [h])
    have hl2 : ¬ (m.length : Int) = l.length := fun h => hl h.symm
    go_enter Try.func48, Try.ntmps48
    go_wp2_with fail
    go_ret
    exact ⟨⟨_, rfl, by simp [hne]⟩, Ext.rfl' _⟩
end Go.Proofs.Ytlblgopfdadalaa
namespace Go.Proofs.Ytlblgopfdadalaa
set_option linter.unusedVariables false
set_option linter.unusedSimpArgs false
set_option linter.unnecessarySimpa false
set_option maxRecDepth 100000
open Go.RowKit
/-- p, where no walk goes on -/
def Stop (p : Prop) : Prop := p
theorem two_stop {P : Program} {ops : Array Oper} {Q : Exit → Act → World → Prop} {l : List Oper} {a : Act} {w : World} {c1 c2 : Array Value} {T1 T2 : TypeId}
    (h : Stop (∀ (W : World) (g : Nat), w.heap.size = g → Blk W g T1 c1 → Blk W (g + 1) T2 c2 → Ext w W → wpList P ops Q l a W)) :
    wpList P ops Q l a ((w.alloc (.cells c1 T1)).alloc (.cells c2 T2)) :=
  h _ _ rfl ((Blk.new w T1 c1).alloc _) (by have := Blk.new (w.alloc (.cells c1 T1)) T2 c2; simpa using this) (((Ext.rfl' w).alloc' _).alloc' _)
theorem one_stop {P : Program} {ops : Array Oper} {Q : Exit → Act → World → Prop} {l : List Oper} {a : Act} {w : World} {c1 : Array Value} {T1 : TypeId}
    (h : Stop (∀ (W : World) (g : Nat), w.heap.size = g → Blk W g T1 c1 → Ext w W → wpList P ops Q l a W)) :
    wpList P ops Q l a (w.alloc (.cells c1 T1)) :=
  h _ _ rfl (Blk.new w T1 c1) ((Ext.rfl' w).alloc' _)
end Go.Proofs.Ytlblgopfdadalaa
