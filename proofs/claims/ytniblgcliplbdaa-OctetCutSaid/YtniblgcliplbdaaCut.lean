/- OctetCut: what the law itself does. -/
import Derived.Test.YtniblgcliplbdaaPlain
namespace Go.Proofs.Ytniblgcliplbdaa
set_option linter.unusedVariables false
set_option linter.unusedSimpArgs false
open Go.RowKit
set_option maxHeartbeats 400000 in
theorem place_b (k n : Int) (w : World) (hk : -9223372036854775808 ≤ k ∧ k ≤ 9223372036854775807) (hn : 1 ≤ n ∧ n ≤ 9223372036854775807) :
    Calls Try.prog 37 #[.int .i64 k, .int .i64 n] w fun e w' => ∃ p : Nat, (p : Int) < n ∧ e = .returned (.int .i64 p) ∧ w = w' := by
  have hn1 : ¬ n < 1 := by omega
  have h1 : k.tmod n < n := Int.tmod_lt_of_pos k (by omega)
  have h2 : -n < k.tmod n := Int.lt_tmod_of_pos k (by omega)
  obtain ⟨q, hq⟩ : ∃ q, k.tmod n = q := ⟨_, rfl⟩
  rw [hq] at h1 h2
  by_cases hneg : q < 0
  · go_enter Try.func37, Try.ntmps37
    go_wp2
    go_ret
    exact ⟨(q + n).toNat, by omega, by rw [Int.toNat_of_nonneg (by omega)]; rfl, rfl⟩
  · go_enter Try.func37, Try.ntmps37
    go_wp2
    go_ret
    exact ⟨q.toNat, by omega, by rw [Int.toNat_of_nonneg (by omega)]; rfl, rfl⟩

set_option maxHeartbeats 800000 in
theorem octetCut_walk (x : Value) (b : Bytes) (y : Value) (more : Bytes) (cut : Int) (w : World) (hx : Bs w x b) (hy : Bs w y more) (hc : -9223372036854775808 ≤ cut ∧ cut ≤ 9223372036854775807) :
    Calls Try.prog 10 #[x, y, .int .i64 cut] w fun e w' => e = .returned (.bool true) ∧ Ext w w' := by
  obtain ⟨A, c, rfl, h1, h2, h3⟩ := id hx
  obtain ⟨A', c', rfl, h1', h2', h3'⟩ := id hy
  unfold maxLen at h2 h2'
  by_cases hl : (100 : Int) < b.length
  · go_enter Try.func10, Try.ntmps10
    go_wp2_with (go_at_call 20; refine (begun_b _).mono ?_; rintro e w1 ⟨rfl, hx1⟩)
    all_goals go_ret
    all_goals exact ⟨rfl, hx1⟩
  · by_cases hl2 : (20 : Int) < more.length
    · go_enter Try.func10, Try.ntmps10
      go_wp2_with (go_at_call 20; refine (begun_b _).mono ?_; rintro e w1 ⟨rfl, hx1⟩)
      all_goals go_ret
      all_goals exact ⟨rfl, hx1⟩
    · go_enter Try.func10, Try.ntmps10
      go_wp2_with (go_at_call 20; refine (begun_b _).mono ?_; rintro e w1 ⟨rfl, hx1⟩)
      have hb4 : b.length < 4294967296 := by omega
      have F1 := hide (ounframe_oframe b more hb4)
      have F2 := hide (fun p hp => ounframe_cut b p hb4 hp)
      have F3 := hide (otakeBytes_put b more hb4)
      have F4 := hide (fun p hp => otakeBytes_cut b p hb4 hp)
      refine (frame_b _ b _ (by omega) (hx.ext hx1)).mono ?_
      rintro e w2 ⟨m1, A1, c1, hm1, rfl, hz1, hx2⟩
      replace hx2 := hx1.trans' hx2
      have hl1 : m1.length = b.length + 8 := by rw [hm1.out, oframe_length]
      have hL1 : m1.length ≤ 108 := by omega
      have hL0 : 8 ≤ m1.length := by omega
      have hcap1 : m1.length ≤ c1 := hz1.bs.inv.2.1
      have HL1 := hide hl1
      clear hl1
      go_wp2_with (first | (at_builtin; refine wpList_app w2 _ rfl (.tmp 34) (.tmp 35) rfl _ [] rfl (nw_lit w2 _ (Ext.rfl' _) _ rfl) ((Ext.rfl' _).alloc' _) _ m1 rfl (hz1.bs.ext ((Ext.rfl' _).alloc' _)) (by simp; omega) ?_; intro k3 A3 c3 w3 hk3 hz3 hx3 _; have hl3 : k3.length ≤ 108 := by rw [hk3.out]; exact hL1) | (at_builtin; refine wpList_app w2 _ rfl (.tmp 36) (.tmp 37) rfl _ k3 rfl hz3 hx3 _ more rfl (hy.ext (hx2.trans' hx3)) (by omega) ?_; intro k4 A4 c4 w4 hk4 hz4 hx4 _; have hl4 : k4.length ≤ 128 := by rw [hk4.out]; simp only [List.length_append]; omega))
      have e4 : k4 = oframe b ++ more := by rw [hk4.out, hk3.out, hm1.out]; rfl
      refine (unframe_b _ k4 _ (by omega) hz4.bs).mono ?_
      rintro e w5 ⟨m5, A5, c5, n5, r5, hm5, rfl, hz5, hx5⟩
      replace hx5 := hx4.trans' hx5
      rw [e4, F1.out] at hm5
      have hm5' := hm5.out
      simp only [Prod.mk.injEq] at hm5'
      obtain ⟨g1, g2, g3⟩ := hm5'
      have G1 := hide g1
      have G2 := hide g2
      obtain rfl : r5 = 0 := g3
      clear g1 g2 hm5 e4
      go_wp2_with fail
      refine (place_b cut _ _ hc (by omega)).mono ?_
      rintro e w6 ⟨p, hp, rfl, rfl⟩
      go_wp2_with fail
      have hp2 : p < b.length + 8 := by have := HL1.out; omega
      have hbc := (hz1.bs.ext hx5).front (k := p) (by omega)
      have hpl : (m1.take p).length = p := by rw [List.length_take]; omega
      refine (unframe_b _ _ _ (by rw [hpl]; omega) hbc).mono ?_
      rintro e w7 ⟨m7, A7, c7, n7, r7, hm7, rfl, hz7, hx7⟩
      have h57 := hx7
      replace hx7 := hx2.trans' (hx5.trans' hx7)
      rw [hm1.out, F2.out p hp2] at hm7
      have hm7' := hm7.out
      simp only [Prod.mk.injEq] at hm7'
      obtain ⟨rfl, rfl, rfl⟩ := hm7'
      clear hm7
      go_wp2_with fail
      refine (putBytes_b _ _ [] b _ (by simp; omega) (Bs.nil _) (hx.ext hx7)).mono ?_
      rintro e w8 ⟨m8, A8, c8, hm8, rfl, hz8, hx8⟩
      have h78 := hx8
      replace hx8 := hx7.trans' hx8
      have hl8 : m8.length = b.length + 4 := by rw [hm8.out, oputBytes_length]; simp
      have hL8 : m8.length ≤ 104 := by omega
      have hL9 : 4 ≤ m8.length := by omega
      have HL8 := hide hl8
      clear hl8
      have hcap8 : m8.length ≤ c8 := hz8.bs.inv.2.1
      go_wp2_with (first | (at_builtin; refine wpList_app w8 _ rfl (.tmp 57) (.tmp 58) rfl _ [] rfl (nw_lit w8 _ (Ext.rfl' _) _ rfl) ((Ext.rfl' _).alloc' _) _ m8 rfl (hz8.bs.ext ((Ext.rfl' _).alloc' _)) (by simp; omega) ?_; intro k9 A9 c9 w9 hk9 hz9 hx9 _; have hl9 : k9.length ≤ 108 := by rw [hk9.out]; simp only [List.nil_append]; omega) | (at_builtin; refine wpList_app w8 _ rfl (.tmp 59) (.tmp 60) rfl _ k9 rfl hz9 hx9 _ more rfl (hy.ext (hx8.trans' hx9)) (by omega) ?_; intro ka Aa ca wa hka hza hxa _; have hla : ka.length ≤ 128 := by rw [hka.out]; simp only [List.length_append]; omega))
      have ea : ka = oputBytes [] b ++ more := by rw [hka.out, hk9.out, hm8.out]; rfl
      refine (takeBytes_b _ ka _ (by omega) hza.bs).mono ?_
      rintro e wb ⟨mb, Ab, cb, nb, rb, hmb, rfl, hzb, hxb⟩
      have hxb' := hxa.trans' hxb
      rw [ea, F3.out] at hmb
      have hmb' := hmb.out
      simp only [Prod.mk.injEq] at hmb'
      obtain ⟨j1, j2, j3⟩ := hmb'
      have J1 := hide j1
      have J2 := hide j2
      obtain rfl : rb = 0 := j3
      clear j1 j2 hmb ea
      go_wp2_with fail
      refine (place_b cut _ _ hc (by omega)).mono ?_
      rintro e wc ⟨q, hq, rfl, rfl⟩
      go_wp2_with fail
      have hq2 : q < b.length + 4 := by have := HL8.out; omega
      have hbq := (hz8.bs.ext hxb').front (k := q) (by omega)
      have hql : (m8.take q).length = q := by rw [List.length_take]; omega
      refine (takeBytes_b _ _ _ (by rw [hql]; omega) hbq).mono ?_
      rintro e wd ⟨md, Ad, cd, nd, rd, hmd, rfl, hzd, hxd⟩
      rw [hm8.out, F4.out q hq2] at hmd
      have hmd' := hmd.out
      simp only [Prod.mk.injEq] at hmd'
      obtain ⟨rfl, rfl, rfl⟩ := hmd'
      clear hmd
      have hxe := hx8.trans' (hxb'.trans' hxd)
      -- the texts that are held against each other
      have J1' := J1.out
      have G1' := G1.out
      subst J1' G1'
      have hn5 : (n5 == (m5.length : Int) + 8) = true := by rw [G2.out]; simp
      have hnb : (nb == (m5.length : Int) + 4) = true := by rw [J2.out]; simp
      have k1 := run_str (P := Try.prog) (hzb.bs.ext hxd) Try.underlying35 Try.underlying5 Try.underlying9
      have k2 := run_str (P := Try.prog) (hz5.bs.ext (h57.trans' (h78.trans' (hxb'.trans' hxd)))) Try.underlying35 Try.underlying5 Try.underlying9
      have k3 := run_str (P := Try.prog) (hx.ext hxe) Try.underlying35 Try.underlying5 Try.underlying9
      go_wp2
      go_ret
      exact ⟨rfl, hxe⟩
end Go.Proofs.Ytniblgcliplbdaa
