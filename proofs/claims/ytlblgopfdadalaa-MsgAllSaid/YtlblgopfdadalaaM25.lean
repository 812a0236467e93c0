/- A part of the proof of 'MsgAll'. -/
import Derived.Test.YtlblgopfdadalaaM4
import Derived.Test.YtlblgopfdadalaaM5
import Derived.Test.YtlblgopfdadalaaM2
import Derived.ArgAppend
import Derived.Test.YtlblgopfdadalaaM19
import Derived.Test.YtlblgopfdadalaaM6
namespace Go.Proofs.Ytlblgopfdadalaa
set_option linter.unusedVariables false
set_option linter.unusedSimpArgs false
set_option linter.unnecessarySimpa false
set_option maxRecDepth 100000
open Go.RowKit
theorem lit8 (w : World) (b : UInt8) (g : Nat) (hg : w.heap.size = g) : Bs (w.alloc (.cells #[.int .u8 b.toNat] 5)) (.slice (some ⟨g, 0, none⟩) 1 1) [b] := Bs.lit 5 [b] g hg (by simp [maxLen]) (0, 0)
theorem be1_byte {v : Int} (h0 : 0 ≤ v) (h1 : v ≤ 255) : ∃ b : UInt8, be 1 v.toNat = [b] ∧ ((b.toNat : Nat) : Int) = v := by
  refine ⟨UInt8.ofNat (v.toNat / 2 ^ (8 * 0)), rfl, ?_⟩
  rw [UInt8.toNat_ofNat']
  simp
  omega
theorem own_chgN {w0 W W' : World} {S : List Nat} {v : Value} {l : Bytes} (h : Nw w0 W v l) (hc : Chg S W W') (hS : ∀ k ∈ S, k < w0.heap.size) : Nw w0 W' v l :=
  own_chg h hc fun k hk hm => by have h1 := (h.lt k hk).1; have h2 := hS k hm; omega
/-- append of one byte where there is room: in place, and what it returns is known -/
theorem run_app1A (w W : World) {A : Option Addr} {c : Nat} {b : Bytes} {x : UInt8} {y : Value} (h : Nw w W (.slice A b.length c) b) (hroom : b.length + 1 ≤ c) (hb0 : 0 < b.length) (hbl : b.length ≤ 100000000000000) (hy : Bs W y [x]) (ty : TypeId) :
    ∃ w', (Builtin.append_ #[24, 24] ty #[.slice A b.length c, y]).run Try.prog W = .ok (.slice A (b.length + 1) c) w' ∧ Nw w w' (.slice A (b.length + 1) c) (b ++ [x]) ∧ Chg (Value.slice A b.length c).ownBlock.toList W w' := by
  obtain ⟨i0, hi, hz0, hz1, hz2⟩ := info_parts ti5
  obtain ⟨B, cy, rfl, h1, h2, h3⟩ := hy
  obtain ⟨by_, rfl, hb, hc⟩ := h3.2 (by simp)
  obtain ⟨v', w', hrun, hown, hg, -⟩ := run_append_any (P := Try.prog) W w.heap.size 24 ty 5 i0 (.int .u8 0) 1 1 Try.underlying24 hi hz0 hz1 hz2 rfl (by decide) (.slice A b.length c) b.length (bv b) h W.heap.size (some by_) 1 cy (bv [x]) h3 (bv_one [x]) (by simp [maxLen]; omega) (by omega) (by
    rcases h.2 with ⟨-, h4⟩ | ⟨g, cap, cur, hv, hg, hh, -⟩
    · omega
    · have := Blk.lt (t := 5) hh; omega)
  rcases h.2 with ⟨-, h4⟩ | ⟨g, cap, cur, hv, hgw, hh, e3, e4, e5, e6⟩
  · omega
  · simp only [Value.slice.injEq, true_and] at hv
    obtain ⟨rfl, rfl⟩ := hv
    have hB : Blk W g 5 cur := hh
    have hroomc := run_append_room_cells (P := Try.prog) W 24 ty 5 i0 Try.underlying24 hi g 0 b.length c by_ 1 cy (bv [x]) (by rw [hz1]; rfl) hc (bv_one [x]) hroom (fun j hj => by
      rw [hB.cell, hz1]
      have : j = 0 := by simpa [bv] using hj
      subst this
      simp
      omega) (fun j hj => hB.frozen _)
    rw [hroomc] at hrun
    injection hrun with e1 e2
    subst e1 e2
    refine ⟨_, hroomc, ?_, hg.chg'⟩
    unfold Nw
    rw [bv_append, List.length_append]
    exact hown
/-- .. where there is no room: in new memory -/
theorem run_app1B (w W : World) {A : Option Addr} {c : Nat} {b : Bytes} {x : UInt8} {y : Value} (h : Nw w W (.slice A b.length c) b) (hroom : ¬ b.length + 1 ≤ c) (hb0 : 0 < b.length) (hbl : b.length ≤ 100000000000000) (hy : Bs W y [x]) (ty : TypeId) :
    ∃ v' w', (Builtin.append_ #[24, 24] ty #[.slice A b.length c, y]).run Try.prog W = .ok v' w' ∧ Nw W w' v' (b ++ [x]) ∧ Ext W w' := by
  obtain ⟨i0, hi, hz0, hz1, hz2⟩ := info_parts ti5
  obtain ⟨B, cy, rfl, h1, h2, h3⟩ := hy
  obtain ⟨by_, rfl, hb, hc⟩ := h3.2 (by simp)
  have hr := Reads.of_own h
  obtain ⟨ad, rfl, -, hcell⟩ := hr.2 hb0
  obtain ⟨v', w', hrun, hown, hg⟩ := run_append_arg_grows (P := Try.prog) W 24 ty 5 i0 (.int .u8 0) 1 1 Try.underlying24 hi hz0 hz1 hz2 rfl (by decide) ad b.length c (bv b) hr.1 hcell by_ 1 cy (bv [x]) h3.1 hc (by omega) (by simp [maxLen]; omega) (by omega)
  refine ⟨v', w', hrun, ?_, ⟨hg.os, hg.tape, hg.output, hg.size, fun k hk => hg.block k hk (by simp)⟩⟩
  unfold Nw
  rw [bv_append, List.length_append]
  exact hown
end Go.Proofs.Ytlblgopfdadalaa
namespace Go.Proofs.Ytlblgopfdadalaa.Rg
set_option linter.unusedVariables false
set_option linter.unusedSimpArgs false
set_option linter.unnecessarySimpa false
set_option maxRecDepth 100000
open Go.RowKit
theorem load_row {P : Program} {ρ : Tmp → Value} {W : World} {o : Oper} (ty : TypeId) (x : Operand) (ho : o.op = .load ty x) (g : Nat) (hx : ev ρ x = .pointer (some ⟨g, 0, none⟩)) (t : TypeId) (cs : Array Value) (d : TypeDesc) (hg : Blk W g t cs)
    (hu : P.underlying ty = some d) (hd : (match d with | .struct _ | .array _ _ => true | _ => false) = true) (hi : (P.info? ty).map (·.size) = some cs.size) :
    (execOp (ev ρ) o).run P W = .ok (.value (.agg cs)) W := by
  unfold execOp
  simp only [ho, hx, Instr.loadAt, Instr.sureAddr, Sem.run_bind, Sem.run_pure, Result.andThen_ok, run_loadVar_row W g t ty cs (0, 0) d hg hu hd hi]
/-- a function that is named is called in a drawn region -/
theorem enter_fn {P : Program} {ρ : Tmp → Value} {W : World} {o : Oper} {f : FuncId} {xs : Array Operand} {ts : Array TypeId} {args : Array Value} {K : Value → World → Prop} (ho : o.op = .call { callee := .value (.func f), args := xs, argTypes := ts })
    (ha : xs.map (ev ρ) = args) (hF : (callFunc f args).run P W = .ok (.enter f args) W) (hK : Calls P f args W fun e W'' => ∃ v, e = .returned v ∧ K v W'') : Run P o ρ W K :=
  run_enter (by subst ha; unfold execOp; simp [ho, go_sem, resolve, ev]; exact hF) hK
end Go.Proofs.Ytlblgopfdadalaa.Rg
