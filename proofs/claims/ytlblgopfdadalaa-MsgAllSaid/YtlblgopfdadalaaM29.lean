/- A part of the proof of 'MsgAll'. -/
import Derived.Test.YtlblgopfdadalaaM4
import Derived.Test.YtlblgopfdadalaaM6
import Derived.Laws.CopyOwn
import Derived.Laws.MakeOwn
namespace Go.Proofs.Ytlblgopfdadalaa
set_option linter.unusedVariables false
set_option linter.unusedSimpArgs false
set_option linter.unnecessarySimpa false
set_option maxRecDepth 100000
open Go.RowKit
/-- what a twin's row holds -/
def twin (b : Bytes) : Bytes := b ++ [229, 229, 229]
def IsTwin (w : World) (g : Nat) (b : Bytes) : Prop := Blk w g 5 (bv (twin b)).toArray
theorem IsTwin.ext {w w' : World} {g : Nat} {b : Bytes} (h : IsTwin w g b) (hx : Ext w w') : IsTwin w' g b := Blk.ext h hx
theorem IsTwin.bs {w : World} {g : Nat} {b : Bytes} (h : IsTwin w g b) (hl : b.length ≤ 140737488355000) : Bs w (.slice (some ⟨g, 0, none⟩) b.length (b.length + 3)) b := by
  refine Bs.mk' rfl (by omega) (by simp [maxLen]; omega) ⟨by simp, fun hn => ⟨_, rfl, h.lt, fun j u hu => ?_⟩⟩
  have hadd : (⟨g, 0, none⟩ : Addr).add j = ⟨g, j, none⟩ := by unfold Addr.add; split <;> simp_all
  have hj : j < (bv b).length := by
    rcases Nat.lt_or_ge j (bv b).length with h1 | h1
    · exact h1
    · rw [List.getElem?_eq_none h1] at hu; cases hu
  rw [hadd, h.cell]
  simp only [List.getElem?_toArray, twin, bv_append]
  rw [List.getElem?_append_left hj]
  exact hu
theorem make_u8 (n : Nat) (h : n ≤ 140737488355328) (l : Int) (hl : l = n) : ∀ W : World, (Instr.makeSlice 24 (.int .i64 l) (.int .i64 l)).run Try.prog W =
    .ok (.slice (some ⟨W.heap.size, 0, none⟩) n n) (W.alloc (.cells (List.replicate n (.int .u8 0)).toArray 5)) := by
  obtain ⟨i0, hi, hz0, hz1, hz2⟩ := info_parts ti5
  subst hl
  intro W
  rw [run_make (P := Try.prog) W 24 5 i0 (.int .u8 0) Try.underlying24 hi hz0 .i64 .i64 n n (by omega) (by omega) (by rw [hz2]; omega) (by omega)]
  have e : madeCells (Value.int .u8 0).cells ((n : Int).toNat * i0.size) = (List.replicate n (Value.int .u8 0)).toArray := by
    rw [hz1]
    apply Array.ext
    · simp [madeCells]
    · intro j h1 h2
      simp [madeCells, Value.cells, Nat.mod_one]
  rw [e]
  simp
set_option maxHeartbeats 400000 in
theorem twin_b (x : Value) (b : Bytes) (w : World) (hl : b.length ≤ 140737488355000) (hx : Bs w x b) :
    Calls Try.prog 7 #[x] w fun e w' => ∃ g, e = .returned (.slice (some ⟨g, 0, none⟩) b.length (b.length + 3)) ∧ w.heap.size ≤ g ∧ IsTwin w' g b ∧ Ext w w' := by
  obtain ⟨A, c, rfl, h1, h2, h3⟩ := id hx
  obtain ⟨i0, hi, hz0, hz1, hz2⟩ := info_parts ti5
  have hmk := make_u8 (b.length + 3) (by omega) ((b.length : Int) + 3) (by simp)
  have hsz : (Try.prog.info? 5).map (·.size) = some 1 := by rw [hi]; simp [hz1]
  obtain ⟨Z, hZ⟩ : ∃ Z, Z = List.replicate (b.length + 3) (Value.int .u8 0) := ⟨_, rfl⟩
  rw [← hZ] at hmk
  have hZl : Z.length = b.length + 3 := by rw [hZ]; simp
  clear hZ
  have HSZ := hide hsz
  have HZL := hide hZl
  clear hsz hZl
  have hpos : ∀ W : World, Ext w W → 0 < (bv b).length → ∃ ad, A = some ad ∧ ∀ j v, (bv b)[j]? = some v → W.cell? (ad.add j) = some v := by
    intro W hW hn
    obtain ⟨ad, e, hb, hc⟩ := (h3.ext hW).2 (by simpa using hn)
    exact ⟨ad, e, hc⟩
  have HP := hide hpos
  clear hpos
  go_enter Try.func7, Try.ntmps7
  go_wp2_with (with_reducible show wpList _ _ _ (Oper.mk (some 11) _ _ _ _ _ :: _) _ _; go_loud (refine wpList_copy_splice rfl (.tmp 9) (.tmp 10) 24 24 rfl 5 Try.underlying24 HSZ.out (some ⟨w.heap.size, 0, none⟩) A (b.length + 3) (b.length + 3) b.length c rfl rfl w.heap.size 0 Z 5 (heap_alloc_new w _) (bv b) (by simp) (fun hn => ⟨rfl, HP.out _ ((Ext.rfl' w).alloc' _) hn⟩) (by rw [HZL.out]; simp) (bv_one b) w.heap.size w ((Ext.rfl' w).alloc' _) (Nat.le_refl _) ?_); intro w2 hg2 hb2)
  have hs : (splice Z 0 (bv b)).length = b.length + 3 := by rw [length_splice]; exact HZL.out; rw [HZL.out]; simp
  have HS := hide hs
  clear hs
  have HI : Hid (∀ j, j < b.length → (splice Z 0 (bv b))[j]? = (bv (twin b))[j]?) := by
    unfold Hid
    intro j hj
    rw [splice, List.take_zero, List.nil_append, List.getElem?_append_left (by simpa using hj), twin, bv_append, List.getElem?_append_left (by simpa using hj)]
  generalize splice Z 0 (bv b) = Y at *
  go_loopw [4] (fun i wr => ∃ (q : Nat) (cur : Array Value), b.length ≤ q ∧ q ≤ b.length + 3 ∧ i = .int .i64 q ∧ Blk wr w.heap.size 5 cur ∧ Hid (cur.size = b.length + 3) ∧ Hid (∀ j, j < q → cur[j]? = (bv (twin b))[j]?) ∧ Ext w wr) (fun i _ => (b.length + 3 - intOf i).toNat)
  case atStart => exact ⟨b.length, Y.toArray, Nat.le_refl _, by omega, rfl, hg2.out, by unfold Hid; simp [HS.out], by unfold Hid; intro j hj; simp only [List.getElem?_toArray]; exact HI.out j hj, hb2⟩
  case round =>
    obtain ⟨q, cur, hq1, hq2, rfl, hc1, hsz, hcur, hxr⟩ := hrel
    by_cases hlt : q < b.length + 3
    · obtain ⟨u, hu⟩ : ∃ u, cur[q]? = some u := ⟨cur[q]'(by have := hsz.out; omega), by simp⟩
      have hcell : wr.cell? ⟨w.heap.size, q, none⟩ = some u := by rw [hc1.cell, hu]
      have hfr := hc1.frozen q
      clear hu
      go_wp2
      refine ⟨⟨q + 1, cur.setIfInBounds q (.int .u8 229), by omega, by omega, by go_num, hc1.set_ q _, by unfold Hid; simp; exact hsz.out, hide ?_, hxr.set' (by simp) _⟩, by simp [intOf]; omega⟩
      intro j hj
      by_cases hjk : j = q
      · subst hjk
        rw [Array.getElem?_setIfInBounds_self_of_lt (by have := hsz.out; omega)]
        rw [twin, bv_append, List.getElem?_append_right (by simpa using hq1)]
        obtain ⟨p, rfl⟩ : ∃ p, j = b.length + p := ⟨j - b.length, by omega⟩
        simp only [bv_length, Nat.add_sub_cancel_left]
        have hp : p < 3 := by omega
        rcases p with _ | _ | _ | p
        · rfl
        · rfl
        · rfl
        · omega
      · rw [Array.getElem?_setIfInBounds_ne (by omega)]
        exact hcur.out j (by omega)
    · obtain rfl : q = b.length + 3 := by omega
      have hall : cur = (bv (twin b)).toArray := by
        apply Array.ext_getElem?
        intro j
        simp only [List.getElem?_toArray]
        rcases Nat.lt_or_ge j (b.length + 3) with hj | hj
        · exact hcur.out j hj
        · rw [Array.getElem?_eq_none (by rw [hsz.out]; exact hj), List.getElem?_eq_none (by simp [twin]; omega)]
      have HA := hide hall
      clear hall hcur hsz
      go_wp2
      go_ret
      exact ⟨w.heap.size, rfl, Nat.le_refl _, by unfold IsTwin; rw [← HA.out]; exact hc1, hxr⟩
set_option maxHeartbeats 400000 in
theorem kept_b (x : Value) (b : Bytes) (g : Nat) (w : World) (hl : b.length ≤ 140737488355000) (hx : Bs w x b) (hg : IsTwin w g b) :
    Calls Try.prog 14 #[.slice (some ⟨g, 0, none⟩) b.length (b.length + 3), x] w fun e w' => e = .returned (.bool true) ∧ w = w' := by
  obtain ⟨A, c, rfl, h1, h2, h3⟩ := id hx
  have k1 := run_str (P := Try.prog) hx Try.underlying24 Try.underlying5 Try.underlying9
  have k2 := run_str (P := Try.prog) (hg.bs hl) Try.underlying24 Try.underlying5 Try.underlying9
  go_enter Try.func14, Try.ntmps14
  go_wp2
  go_loop [6] (fun i => ∃ q : Nat, b.length ≤ q ∧ q ≤ b.length + 3 ∧ i = .int .i64 q) (fun i => (b.length + 3 - intOf i).toNat)
  case atStart => exact ⟨b.length, Nat.le_refl _, by omega, rfl⟩
  case round =>
    obtain ⟨q, hq1, hq2, rfl⟩ := hrel
    by_cases hlt : q < b.length + 3
    · have hcell : w.cell? ⟨g, q, none⟩ = some (.int .u8 229) := by
        have hc := Blk.cell hg q
        rw [hc, List.getElem?_toArray, twin, bv_append, List.getElem?_append_right (by simpa using hq1)]
        obtain ⟨p, rfl⟩ : ∃ p, q = b.length + p := ⟨q - b.length, by omega⟩
        simp only [bv_length, Nat.add_sub_cancel_left]
        have hp : p < 3 := by omega
        rcases p with _ | _ | _ | p
        · rfl
        · rfl
        · rfl
        · omega
      go_wp2
      exact ⟨⟨q + 1, by omega, by omega, by go_num⟩, by simp [intOf]; omega⟩
    · go_wp2
      go_ret
      exact ⟨rfl, rfl⟩
end Go.Proofs.Ytlblgopfdadalaa
