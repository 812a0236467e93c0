/- OctetBits: what the law itself does. -/
import Derived.Test.YtniblgcliplbdaaPlain
namespace Go.Proofs.Ytniblgcliplbdaa
open Go.RowKit
theorem turn_bit (y : UInt8) (t : Nat) (ht : t < 8) : ∃ z : UInt8, z ≠ y ∧ bits .xor .u8 (y.toNat : Int) (2 ^ t % 256) = (z.toNat : Nat) := by
  have hy := y.toNat_lt
  have h2 : 2 ^ t < 256 := Nat.lt_of_lt_of_le (Nat.pow_lt_pow_right (by omega) ht) (by decide)
  have h0 : 0 < 2 ^ t := Nat.pow_pos (by omega)
  have hx : y.toNat ^^^ 2 ^ t < 2 ^ 8 := Nat.xor_lt_two_pow (by omega) (by omega)
  refine ⟨UInt8.ofNat (y.toNat ^^^ 2 ^ t), ?_, ?_⟩
  · intro h
    have h1 := congrArg UInt8.toNat h
    rw [UInt8.toNat_ofNat', Nat.mod_eq_of_lt hx] at h1
    have h3 := congrArg (y.toNat ^^^ ·) h1
    simp only [← Nat.xor_assoc, Nat.xor_self, Nat.zero_xor] at h3
    omega
  · have e1 : (2 : Int) ^ t % 256 = ((2 ^ t : Nat) : Int) := by
      have e2 : (2 : Int) ^ t = ((2 ^ t : Nat) : Int) := by simp
      rw [e2]; omega
    rw [e1, u8_xor_nat _ _ (by omega) h2, UInt8.toNat_ofNat', Nat.mod_eq_of_lt hx]
theorem bv_set (l : Bytes) (j : Nat) (z : UInt8) : bv (l.set j z) = (bv l).set j (.int .u8 (z.toNat : Nat)) := by simp [bv, List.map_set]
set_option maxHeartbeats 800000 in
theorem octetBits_walk (x : Value) (b : Bytes) (at_ : Int) (w : World) (hx : Bs w x b) (ha : 0 ≤ at_ ∧ at_ ≤ 65535) :
    Calls Try.prog 11 #[x, .int .u16 at_] w fun e w' => e = .returned (.bool true) ∧ Ext w w' := by
  obtain ⟨A, c, rfl, h1, h2, h3⟩ := id hx
  unfold maxLen at h2
  by_cases hl : (100 : Int) < b.length
  · go_enter Try.func11, Try.ntmps11
    go_wp2_with (go_at_call 20; refine (begun_b _).mono ?_; rintro e w1 ⟨rfl, hx1⟩)
    all_goals go_ret
    all_goals exact ⟨rfl, hx1⟩
  · go_enter Try.func11, Try.ntmps11
    go_wp2_with (go_at_call 20; refine (begun_b _).mono ?_; rintro e w1 ⟨rfl, hx1⟩)
    refine (frame_b _ b _ (by omega) (hx.ext hx1)).mono ?_
    rintro e w2 ⟨m1, A1, c1, hm1, rfl, hz1, hx2⟩
    have hx3 := hx1.trans' hx2
    have hl1 : m1.length = b.length + 8 := by rw [hm1.out, oframe_length]
    have hL1 : m1.length ≤ 108 := by omega
    have hL0 : 8 ≤ m1.length := by omega
    have hne : ((m1.length : Int) != (b.length : Int) + 8) = false := by rw [hl1]; simp
    have HL1 := hide hl1
    clear hl1
    obtain ⟨R, hR⟩ := Int.eq_ofNat_of_zero_le (Int.emod_nonneg at_ (show (8 : Int) * ((m1.length : Int) - 4) ≠ 0 by omega))
    have hR2 : (R : Int) < 8 * ((m1.length : Int) - 4) := hR ▸ Int.emod_lt_of_pos at_ (by omega)
    obtain ⟨g, cap, hv, hg1, hg2⟩ := World.ownsRow.form hz1 (by omega)
    go_wp2_with fail
    clear hR
    obtain ⟨y, hy⟩ : ∃ y, m1[4 + R / 8]? = some y := ⟨m1[4 + R / 8]'(by omega), by simp⟩
    have hcell : w2.cell? ⟨g, 4 + R / 8, none⟩ = some (.int .u8 (y.toNat : Nat)) := by
      have hc := hz1.cells (g := g) rfl (4 + R / 8) (.int .u8 (y.toNat : Nat)) (by simp [bv, hy])
      rwa [show (⟨g, 0, none⟩ : Addr).add (4 + R / 8) = ⟨g, 4 + R / 8, none⟩ by unfold Addr.add; split <;> simp_all] at hc
    have hfr : w2.frozen? ⟨g, 4 + R / 8, none⟩ = false := hz1.frozenAt _
    have hjq : (32 + (R : Int)) / 8 = ((4 + R / 8 : Nat) : Int) := by omega
    have hjr : (32 + (R : Int)) % 8 = ((R % 8 : Nat) : Int) := by omega
    have hjl : ((4 + R / 8 : Nat) : Int) < m1.length := by omega
    have hj4 : 4 ≤ 4 + R / 8 := by omega
    generalize 4 + R / 8 = j at *
    have h8 : ((R % 8 : Nat) : Int) < 8 := by omega
    generalize R % 8 = t at *
    obtain ⟨z, hzy, hz⟩ := turn_bit y t (by omega)
    have hst := hz1.stored j (.int .u8 (z.toNat : Nat))
    have HJ := hide hj4
    have HY := hide hy
    have HS := hide hst
    have HZ := hide hz
    clear hj4 hy hst hz
    go_region
    go_wp2_with fail
    simp only [HZ.out]
    have hb2 : Bs (w2.setCell ⟨g, j, none⟩ (.int .u8 (z.toNat : Nat))).drew (.slice (some ⟨g, 0, none⟩) m1.length c1) (m1.set j z) := by
      have h9 := HS.out.1
      rw [← bv_set] at h9
      exact Bs.own h9
    have hx4 : Ext w (w2.setCell ⟨g, j, none⟩ (.int .u8 (z.toNat : Nat))).drew := (hx3.set' (by have := hx1.size; exact Nat.le_trans this hg1) _).drew'
    have hF := ounframe_set b j z y (by omega) HJ.out (by rw [← hm1.out]; exact HY.out) hzy
    rw [← hm1.out] at hF
    refine (unframe_b _ _ _ (by simp; omega) hb2).mono ?_
    rintro e w5 ⟨m5, A5, c5, n5, r5, hm5, rfl, hz5, hx5⟩
    rw [hF] at hm5
    have hm5' := hm5.out
    simp only [Prod.mk.injEq] at hm5'
    obtain ⟨rfl, rfl, rfl⟩ := hm5'
    clear hm5 hF
    go_wp2
    go_ret
    exact ⟨rfl, hx4.trans' hx5⟩
end Go.Proofs.Ytniblgcliplbdaa
