/- DiskApart: what the law itself does. -/
import Derived.Test.YtlhokicnedkieaaDiskBegun
import Derived.Test.YtlhokicnedkieaaStr
import Derived.Deep.QuietTactic
import Derived.BigQuiet
namespace Go.Proofs.Ytlhokicnedkieaa
set_option linter.unusedVariables false
set_option linter.unusedSimpArgs false
set_option linter.unnecessarySimpa false
set_option maxRecDepth 100000
open Go.RowKit
theorem op_go (d : Dk) (size : Int) (f h : Dk → Dk) (hd : d.de = false) (ha : d.ar = false) (hs : size ≤ 200000) : d.op size f h = (f d, 0) := by
  unfold Dk.op
  rw [if_neg (by simp [hd]), if_neg (by omega), if_neg (by simp [ha]), if_neg (by simp [ha])]
set_option maxHeartbeats 3200000 in
theorem diskApart_walk (xa : Value) (a : Bytes) (xb : Value) (b : Bytes) (xc : Value) (c : Bytes) (part : Int) (w : World) (ha : Bs w xa a) (hb : Bs w xb b) (hc : Bs w xc c) (hp : -9223372036854775808 ≤ part ∧ part ≤ 9223372036854775807) :
    Calls Try.prog 3 #[xa, xb, xc, .int .i64 part] w fun e w' => e = .returned (.bool true) ∧ Ext w w' := by
  obtain ⟨A1, c1, rfl, k1, k2, -⟩ := id ha
  obtain ⟨A2, c2, rfl, k3, k4, -⟩ := id hb
  obtain ⟨A3, c3, rfl, k5, k6, -⟩ := id hc
  unfold maxLen at k2 k4 k6
  by_cases hl : (60 : Int) < a.length ∨ (60 : Int) < b.length ∨ (60 : Int) < c.length
  · have hl3 : (60 : Int) < a.length ∨ ((a.length : Int) ≤ 60 ∧ (60 : Int) < b.length) ∨ ((a.length : Int) ≤ 60 ∧ (b.length : Int) ≤ 60 ∧ (60 : Int) < c.length) := by omega
    rcases hl3 with h | ⟨h, h'⟩ | ⟨h, h', h''⟩
    all_goals
      clear hl
      go_enter Try.func3, Try.ntmps3
      go_wp2_with (go_at_call 12; refine (begun21_b _).mono ?_; rintro e w1 ⟨rfl, hx1⟩)
      go_ret
      exact ⟨rfl, hx1⟩
  · have l1 : (a.length : Int) ≤ 60 := by omega
    have l2 : (b.length : Int) ≤ 60 := by omega
    have l3 : (c.length : Int) ≤ 60 := by omega
    clear hl
    go_enter Try.func3, Try.ntmps3
    go_wp2_with fail
    refine (begun21_b _).mono ?_
    rintro e w1 ⟨rfl, hx1⟩
    go_wp2_with fail
    refine (disk_new _).mono ?_
    rintro e w2 ⟨rfl, rfl⟩
    have hD := new_at w1
    have hx2 := hx1.alloc' (.cells (dcells (.slice none 0 0) Dk.new) 71)
    have hs2 : w1.heap.size < (w1.alloc (.cells (dcells (.slice none 0 0) Dk.new) 71)).heap.size := by simp
    generalize w1.alloc (.cells (dcells (.slice none 0 0) Dk.new) 71) = w2 at *
    have hg : w.heap.size ≤ w1.heap.size := hx1.size
    generalize w1.heap.size = g at *
    have og := fun {v : Value} {l : Bytes} (h : Bs w v l) => h.off (S := [g]) (by simp; exact hg)
    go_wp2_with fail
    refine (disk_append g _ _ Dk.new a _ hD (ha.ext hx2) (og ha) (by omega)).mono ?_
    rintro e w3 hr
    obtain ⟨rfl, v3, h3, hx3, hn3⟩ := hr.at_ (op_go _ _ _ _ rfl rfl (by simp [Dk.new]; omega))
    clear hr
    have hx13 := hx2.then_ hx3 (by simp; exact hg)
    go_wp2_with fail
    refine (disk_sync g v3 _ _ h3).mono ?_
    rintro e w4 hr
    obtain ⟨rfl, v4, h4, hx4, hn4⟩ := hr.at_ (op_go _ _ _ _ rfl rfl (by omega))
    clear hr
    have hx14 := hx13.then_ hx4 (by simp; exact hg)
    replace h4 : DiskAt w4 g v4 ⟨a, a.length, false, 0, 0, false⟩ := h4
    go_wp2_with fail
    refine (disk_append g v4 _ _ b _ h4 (hb.ext hx14) (og hb) (by omega)).mono ?_
    rintro e w5 hr
    obtain ⟨rfl, v5, h5, hx5, hn5⟩ := hr.at_ (op_go _ _ _ _ rfl rfl (by simp; omega))
    clear hr
    have hx15 := hx14.then_ hx5 (by simp; exact hg)
    replace h5 : DiskAt w5 g v5 ⟨a ++ b, a.length, false, 0, 0, false⟩ := h5
    go_wp2_with fail
    refine (disk_copy g v5 _ _ h5).mono ?_
    rintro e w6 ⟨g', v6, rfl, hg', h6, hn6, hx6⟩
    have hx16 := hx15.trans' hx6
    have h6d := h5.ext hx6
    have hgg : g < g' := Nat.lt_of_lt_of_le h5.blk.lt hg'
    have hwg : w.heap.size ≤ g' := by omega
    have og' := fun {v : Value} {l : Bytes} (h : Bs w v l) => h.off (S := [g']) (by simp; exact hwg)
    go_wp2_with fail
    refine (disk_synced g' v6 _ _ h6).mono ?_
    rintro e w7 ⟨rfl, rfl⟩
    go_wp2_with fail
    refine (disk_append g' v6 _ _ c _ h6 (hc.ext hx16) (og' hc) (by omega)).mono ?_
    rintro e w7 hr
    obtain ⟨rfl, v7, h7, hx7, hn7⟩ := hr.at_ (op_go _ _ _ _ rfl rfl (by simp; omega))
    clear hr
    replace h7 : DiskAt w7 g' v7 ⟨a ++ b ++ c, a.length, false, 0, 0, false⟩ := h7
    have hx17 := hx16.then_ hx7 (by simp; exact hwg)
    go_wp2_with fail
    refine (disk_sync g' v7 _ _ h7).mono ?_
    rintro e w8 hr
    obtain ⟨rfl, v8, h8, hx8, hn8⟩ := hr.at_ (op_go _ _ _ _ rfl rfl (by omega))
    clear hr
    replace h8 : DiskAt w8 g' v8 ⟨a ++ b ++ c, (a ++ b ++ c).length, false, 0, 0, false⟩ := h8
    have hx18 := hx17.then_ hx8 (by simp; exact hwg)
    have hx68 := hx7.trans hx8
    have h8d : DiskAt w8 g v5 _ := h6d.chg hx68 (by simp; omega) (h5.bs.off (by simp; exact hg'))
    have ho8 : ∀ k, v8.ownBlock = some k → k ∉ [g] := by
      intro k hk
      have hgl := h5.blk.lt
      have e7 := hx7.size
      have e6 := hx6.size
      rcases hn8 k hk with h | h
      · rcases hn7 k h with h | h
        · have := hn6 k h
          simp; omega
        · simp; omega
      · simp; omega
    go_wp2_with fail
    refine (disk_crash g v5 _ part _ h8d hp).mono ?_
    rintro e w9 ⟨rfl, v9, h9, hx9, hn9⟩
    have h9e := h8.chg hx9 (by simp; omega) (.of_own ho8)
    have hx19 := hx18.then_ hx9 (by simp; exact hg)
    go_wp2_with fail
    refine (disk_power g v9 _ _ h9).mono ?_
    rintro e w10 ⟨rfl, v10, h10, hx10, hn10⟩
    have h10e := h9e.chg hx10 (by simp; omega) (.of_own ho8)
    have hx110 := hx19.then_ hx10 (by simp; exact hg)
    have hq : Dk.left ⟨a ++ b, a.length, false, 0, 0, false⟩ part = a.length + max 0 (min part b.length) := by simp [Dk.left]; omega
    obtain ⟨K, hK⟩ : ∃ K : Nat, (K : Int) = max 0 (min part b.length) := ⟨(max 0 (min part b.length)).toNat, by omega⟩
    have hq2 : (Dk.left ⟨a ++ b, a.length, false, 0, 0, false⟩ part).toNat = a.length + K := by omega
    have hKl : K ≤ b.length := by omega
    have hb10 : (Dk.power (Dk.crash ⟨a ++ b, a.length, false, 0, 0, false⟩ part)).b = (a ++ b).take (a.length + K) := by simp only [Dk.power, Dk.crash, Dk.cut, hq2]
    have HX : Hid (((a ++ b).take (a.length + K)).length = a.length + K) := by unfold Hid; simp; omega
    go_wp2_with fail
    refine (disk_read g v10 _ _ h10 rfl).mono ?_
    rw [hb10]
    rintro e w11 ⟨x, rfl, hx, hx11⟩
    clear hb10 hq hq2
    generalize hX : (a ++ b).take (a.length + K) = X at *
    go_wp2_with fail
    refine (disk_read g' v8 _ _ (h10e.ext hx11) rfl).mono ?_
    rintro e w12 ⟨y, rfl, hy, hx12⟩
    have e1 := run_cat a b (by omega)
    have e2 := run_cat (a ++ b) c (by simp; omega)
    have e3 := run_front (a ++ b) (a.length + K) ((a.length : Int) + K) (by omega) (by simp; omega)
    rw [hX] at e3
    replace hy : Nw w11 w12 y (a ++ b ++ c) := hy
    generalize a ++ b ++ c = Y at *
    generalize a ++ b = AB at *
    have hxb := hx.bs.ext hx12
    have hyb := hy.bs
    have hx111 := (hx110.trans' hx11).trans' hx12
    have hab := ha.ext hx111
    have hbb := hb.ext hx111
    have hcb := hc.ext hx111
    have h12 := (h10e.ext hx11).ext hx12
    obtain ⟨A4, c4, rfl, -, -⟩ := own_slice (id hx)
    obtain ⟨A5, c5, rfl, -, -⟩ := own_slice (id hy)
    have st := fun {v : Value} {l : Bytes} (h : Bs w12 v l) (n : Nat) => run_str (P := Try.prog) (w := w12.drewN n) h Try.underlying22 Try.underlying5 Try.underlying9
    have s1 := st hxb
    have s2 := st hyb
    have s3 := st hab
    have s4 := st hbb
    have s5 := st hcb
    clear st
    obtain ⟨M, hM⟩ : ∃ M : Int, M = if part < 0 then 0 else part := ⟨_, rfl⟩
    have e4 := hM.symm
    have e5 : (if (b.length : Int) < M then (b.length : Int) else M) = (K : Int) := by
      rw [hK, hM]
      split <;> split <;> omega
    have HX2 := hide hX
    clear hX hM hK
    have hXl : ((X.length : Int) == (a.length : Int) + (K : Int)) = true := by rw [HX.out]; simp
    have L1 := hide l1
    have L2 := hide l2
    have L3 := hide l3
    clear l1 l2 l3
    go_wp2
    go_quiet ((go_at_call 21; exact Calls.quiet_of_same ((disk_dead g' v8 _ _ (h12.drewN_ _)).mono fun _ _ h => ⟨h.1, h.2.symm⟩)))
    go_wp2
    go_ret
    exact ⟨rfl, hx111.drewN' nq⟩
end Go.Proofs.Ytlhokicnedkieaa
