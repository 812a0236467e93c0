/- DiskForms: what the law itself does. -/
import Derived.Test.YtlhokicnedkieaaDiskApart
import Derived.Test.YtlhokicnedkieaaTwin
namespace Go.Proofs.Ytlhokicnedkieaa
set_option linter.unusedVariables false
set_option linter.unusedSimpArgs false
set_option linter.unnecessarySimpa false
set_option maxRecDepth 100000
open Go.RowKit
theorem bs_zeros (w : World) (n : Nat) (g : Nat) (hg : w.heap.size = g) (hm : n ≤ maxLen) : Bs (w.alloc (.cells (List.replicate n (.int .u8 0)).toArray 5)) (.slice (some ⟨g, 0, none⟩) n n) (List.replicate n 0) := by
  have h := Bs.lit (w := w) 5 (List.replicate n 0) g hg (by simpa using hm) (0, 0)
  simpa [bv] using h
theorem Bs.off_new {w : World} {o : Obj} {n c g : Nat} {l : Bytes} (_ : Bs (w.alloc o) (.slice (some ⟨w.heap.size, 0, none⟩) n c) l) (hg : g < w.heap.size) : Off (.slice (some ⟨w.heap.size, 0, none⟩) n c) [g] :=
  .of_own fun k hk => by simp [Value.ownBlock] at hk; subst hk; simp; omega
theorem op_full (d : Dk) (size : Int) (f h : Dk → Dk) (hd : d.de = false) (hs : 200000 < size) : d.op size f h = (d, 12) := by
  unfold Dk.op
  rw [if_neg (by simp [hd]), if_pos hs]
set_option maxHeartbeats 6400000 in
theorem diskForms_walk (w : World) : Calls Try.prog 5 #[] w fun e w' => e = .returned (.bool true) ∧ Ext w w' := by
  have kc := fun (w : World) (C : Array Value) (n c : Nat) => Lib.run_convert_bytes_const (P := Try.prog) w 22 5 C n c Try.underlying22 Try.underlying5
  go_enter Try.func5, Try.ntmps5
  go_wp2_with fail
  refine (begun21_b _).mono ?_
  rintro e w0 ⟨rfl, hx0⟩

  go_wp2_with fail
  refine (disk_new _).mono ?_
  rintro e w1 ⟨rfl, rfl⟩
  have h1 := new_at w0
  have hx1 := hx0.alloc' (.cells (dcells (.slice none 0 0) Dk.new) 71)
  have hy1 : Ext w0 (w0.alloc (.cells (dcells (.slice none 0 0) Dk.new) 71)) := (Ext.rfl' _).alloc' _
  have hs1 : w0.heap.size < (w0.alloc (.cells (dcells (.slice none 0 0) Dk.new) 71)).heap.size := by simp
  generalize w0.alloc (.cells (dcells (.slice none 0 0) Dk.new) 71) = w1 at *
  have hg1 : w.heap.size ≤ w0.heap.size := hx0.size
  generalize w0.heap.size = g1 at *
  have gl1 : g1 < w1.heap.size := h1.blk.lt
  go_wp2_with fail
  refine Calls.mono (disk_append g1 _ _ _ [97, 98] _ (h1.box _) (lit_fr [97, 98] _ _ 2 _ (by rfl) (by rfl) (by rfl) (by simp [maxLen])) (.of_own fun k hk => by simp [Value.ownBlock] at hk; subst hk; simp; omega) (by decide)) ?_
  rintro e w2 hr
  obtain ⟨rfl, v2, h2, hc2, hn2⟩ := hr.at_ (d := ⟨[97, 98], 0, false, 0, 0, false⟩) (k := 0) rfl
  clear hr
  have hx2 : Ext w w2 := (hx1.alloc' _).then_ hc2 (by simp; exact hg1)
  go_wp2_with fail
  refine Calls.mono (disk_sync g1 _ _ _ h2) ?_
  rintro e w3 hr
  obtain ⟨rfl, v3, h3, hc3, hn3⟩ := hr.at_ (d := ⟨[97, 98], 2, false, 0, 0, false⟩) (k := 0) rfl
  clear hr
  have hx3 : Ext w w3 := hx2.then_ hc3 (by simp; exact hg1)
  have gl3 : g1 < w3.heap.size := h3.blk.lt
  go_wp2_with fail
  refine Calls.mono (disk_append g1 _ _ _ [99, 100] _ (h3.box _) (lit_fr [99, 100] _ _ 2 _ (by rfl) (by rfl) (by rfl) (by simp [maxLen])) (.of_own fun k hk => by simp [Value.ownBlock] at hk; subst hk; simp; omega) (by decide)) ?_
  rintro e w4 hr
  obtain ⟨rfl, v4, h4, hc4, hn4⟩ := hr.at_ (d := ⟨[97, 98, 99, 100], 2, false, 0, 0, false⟩) (k := 0) rfl
  clear hr
  have hx4 : Ext w w4 := (hx3.alloc' _).then_ hc4 (by simp; exact hg1)
  go_wp2_with fail
  refine Calls.mono (disk_arm g1 _ _ 0 3 _ h4 (by decide) (by decide)) ?_
  rintro e w5 ⟨rfl, v5, h5, hc5, hn5⟩
  replace h5 : DiskAt w5 g1 v5 ⟨[97, 98, 99, 100], 2, true, 0, 3, false⟩ := h5
  have hx5 : Ext w w5 := hx4.then_ hc5 (by simp; exact hg1)
  have gl5 : g1 < w5.heap.size := h5.blk.lt
  go_wp2_with fail
  refine Calls.mono (disk_append g1 _ _ _ [101, 102] _ (h5.box _) (lit_fr [101, 102] _ _ 2 _ (by rfl) (by rfl) (by rfl) (by simp [maxLen])) (.of_own fun k hk => by simp [Value.ownBlock] at hk; subst hk; simp; omega) (by decide)) ?_
  rintro e w6 hr
  obtain ⟨rfl, v6, h6, hc6, hn6⟩ := hr.at_ (d := ⟨[97, 98, 99, 100, 101], 2, false, 0, 3, true⟩) (k := 16) rfl
  clear hr
  have hx6 : Ext w w6 := (hx5.alloc' _).then_ hc6 (by simp; exact hg1)
  go_wp2_with fail
  refine Calls.mono (disk_sync g1 _ _ _ h6) ?_
  rintro e w7 hr
  obtain ⟨rfl, v7, h7, hc7, hn7⟩ := hr.at_ (d := ⟨[97, 98, 99, 100, 101], 2, false, 0, 3, true⟩) (k := 16) rfl
  clear hr
  have hx7 : Ext w w7 := hx6.then_ hc7 (by simp; exact hg1)
  go_wp2_with fail
  refine Calls.mono (disk_power g1 _ _  _ h7) ?_
  rintro e w8 ⟨rfl, v8, h8, hc8, hn8⟩
  replace h8 : DiskAt w8 g1 v8 ⟨[97, 98, 99, 100, 101], 5, false, 0, 3, false⟩ := h8
  have hx8 : Ext w w8 := hx7.then_ hc8 (by simp; exact hg1)
  go_wp2_with fail
  refine Calls.mono (disk_read g1 _ _ _ h8 rfl) ?_
  rintro e w9 ⟨y9, rfl, hw9, hz9⟩
  replace hw9 : Nw w8 w9 y9 [97, 98, 99, 100, 101] := hw9
  obtain ⟨A9, c9, rfl, -, -⟩ := own_slice (id hw9)
  have hx9 : Ext w w9 := hx8.trans' hz9
  have h9 := h8.ext hz9
  have bx := hw9.bs
  go_wp2_with fail
  refine (disk_new _).mono ?_
  rintro e w10 ⟨rfl, rfl⟩
  have h10 := new_at w9
  have hx10 := hx9.alloc' (.cells (dcells (.slice none 0 0) Dk.new) 71)
  have hy10 : Ext w9 (w9.alloc (.cells (dcells (.slice none 0 0) Dk.new) 71)) := (Ext.rfl' _).alloc' _
  have hs10 : w9.heap.size < (w9.alloc (.cells (dcells (.slice none 0 0) Dk.new) 71)).heap.size := by simp
  generalize w9.alloc (.cells (dcells (.slice none 0 0) Dk.new) 71) = w10 at *
  have hg10 : w.heap.size ≤ w9.heap.size := hx9.size
  have bxo := bx.off (S := [w9.heap.size]) (by simp)
  replace bx := bx.ext hy10
  generalize w9.heap.size = g10 at *
  have gl10 : g10 < w10.heap.size := h10.blk.lt
  go_wp2_with fail
  refine Calls.mono (disk_append g10 _ _ _ [97, 98] _ (h10.box _) (lit_fr [97, 98] _ _ 2 _ (by rfl) (by rfl) (by rfl) (by simp [maxLen])) (.of_own fun k hk => by simp [Value.ownBlock] at hk; subst hk; simp; omega) (by decide)) ?_
  rintro e w11 hr
  obtain ⟨rfl, v11, h11, hc11, hn11⟩ := hr.at_ (d := ⟨[97, 98], 0, false, 0, 0, false⟩) (k := 0) rfl
  clear hr
  have hx11 : Ext w w11 := (hx10.alloc' _).then_ hc11 (by simp; exact hg10)
  replace bx := (bx.ext ((Ext.rfl' _).alloc' _)).chg hc11 bxo
  go_wp2_with fail
  refine Calls.mono (disk_arm g10 _ _ 1 1 _ h11 (by decide) (by decide)) ?_
  rintro e w12 ⟨rfl, v12, h12, hc12, hn12⟩
  replace h12 : DiskAt w12 g10 v12 ⟨[97, 98], 0, true, 1, 1, false⟩ := h12
  have hx12 : Ext w w12 := hx11.then_ hc12 (by simp; exact hg10)
  replace bx := bx.chg hc12 bxo
  have gl12 : g10 < w12.heap.size := h12.blk.lt
  go_wp2_with fail
  refine Calls.mono (disk_append g10 _ _ _ [99, 100] _ (h12.box _) (lit_fr [99, 100] _ _ 2 _ (by rfl) (by rfl) (by rfl) (by simp [maxLen])) (.of_own fun k hk => by simp [Value.ownBlock] at hk; subst hk; simp; omega) (by decide)) ?_
  rintro e w13 hr
  obtain ⟨rfl, v13, h13, hc13, hn13⟩ := hr.at_ (d := ⟨[97, 98, 99, 100], 0, true, 0, 1, false⟩) (k := 0) rfl
  clear hr
  have hx13 : Ext w w13 := (hx12.alloc' _).then_ hc13 (by simp; exact hg10)
  replace bx := (bx.ext ((Ext.rfl' _).alloc' _)).chg hc13 bxo
  have gl13 : g10 < w13.heap.size := h13.blk.lt
  go_wp2_with fail
  refine Calls.mono (disk_replace g10 _ _ _ [122] _ (h13.box _) (lit_fr [122] _ _ 1 _ (by rfl) (by rfl) (by rfl) (by simp [maxLen])) (.of_own fun k hk => by simp [Value.ownBlock] at hk; subst hk; simp; omega) (by decide)) ?_
  rintro e w14 hr
  obtain ⟨rfl, v14, h14, hc14, hn14⟩ := hr.at_ (d := ⟨[97], 0, false, 0, 1, true⟩) (k := 16) rfl
  clear hr
  have hx14 : Ext w w14 := (hx13.alloc' _).then_ hc14 (by simp; exact hg10)
  replace bx := (bx.ext ((Ext.rfl' _).alloc' _)).chg hc14 bxo
  go_wp2_with fail
  refine Calls.mono (disk_power g10 _ _  _ h14) ?_
  rintro e w15 ⟨rfl, v15, h15, hc15, hn15⟩
  replace h15 : DiskAt w15 g10 v15 ⟨[97], 1, false, 0, 1, false⟩ := h15
  have hx15 : Ext w w15 := hx14.then_ hc15 (by simp; exact hg10)
  replace bx := bx.chg hc15 bxo
  go_wp2_with fail
  refine Calls.mono (disk_read g10 _ _ _ h15 rfl) ?_
  rintro e w16 ⟨y16, rfl, hw16, hz16⟩
  replace hw16 : Nw w15 w16 y16 [97] := hw16
  obtain ⟨A16, c16, rfl, -, -⟩ := own_slice (id hw16)
  have hx16 : Ext w w16 := hx15.trans' hz16
  have h16 := h15.ext hz16
  replace bx := bx.ext hz16
  have by_ := hw16.bs
  go_wp2_with fail
  refine (disk_new _).mono ?_
  rintro e w17 ⟨rfl, rfl⟩
  have h17 := new_at w16
  have hx17 := hx16.alloc' (.cells (dcells (.slice none 0 0) Dk.new) 71)
  have hy17 : Ext w16 (w16.alloc (.cells (dcells (.slice none 0 0) Dk.new) 71)) := (Ext.rfl' _).alloc' _
  have hs17 : w16.heap.size < (w16.alloc (.cells (dcells (.slice none 0 0) Dk.new) 71)).heap.size := by simp
  generalize w16.alloc (.cells (dcells (.slice none 0 0) Dk.new) 71) = w17 at *
  have hg17 : w.heap.size ≤ w16.heap.size := hx16.size
  have bxo := bx.off (S := [w16.heap.size]) (by simp)
  replace bx := bx.ext hy17
  have by_o := by_.off (S := [w16.heap.size]) (by simp)
  replace by_ := by_.ext hy17
  generalize w16.heap.size = g17 at *
  go_wp2_with fail
  refine Calls.mono (disk_arm g17 _ _ (-1) 0 _ h17 (by decide) (by decide)) ?_
  rintro e w18 ⟨rfl, v18, h18, hc18, hn18⟩
  replace h18 : DiskAt w18 g17 v18 ⟨[], 0, false, -1, 0, false⟩ := h18
  have hx18 : Ext w w18 := hx17.then_ hc18 (by simp; exact hg17)
  replace bx := bx.chg hc18 bxo
  replace by_ := by_.chg hc18 by_o
  have gl18 : g17 < w18.heap.size := h18.blk.lt
  go_wp2_with fail
  refine Calls.mono (disk_replace g17 _ _ _ [113] _ (h18.box _) (lit_fr [113] _ _ 1 _ (by rfl) (by rfl) (by rfl) (by simp [maxLen])) (.of_own fun k hk => by simp [Value.ownBlock] at hk; subst hk; simp; omega) (by decide)) ?_
  rintro e w19 hr
  obtain ⟨rfl, v19, h19, hc19, hn19⟩ := hr.at_ (d := ⟨[113], 1, false, -1, 0, false⟩) (k := 0) rfl
  clear hr
  have hx19 : Ext w w19 := (hx18.alloc' _).then_ hc19 (by simp; exact hg17)
  replace bx := (bx.ext ((Ext.rfl' _).alloc' _)).chg hc19 bxo
  replace by_ := (by_.ext ((Ext.rfl' _).alloc' _)).chg hc19 by_o
  have gl19 : g17 < w19.heap.size := h19.blk.lt
  go_wp2_with fail
  refine Calls.mono (disk_append g17 _ _ _ [114] _ (h19.box _) (lit_fr [114] _ _ 1 _ (by rfl) (by rfl) (by rfl) (by simp [maxLen])) (.of_own fun k hk => by simp [Value.ownBlock] at hk; subst hk; simp; omega) (by decide)) ?_
  rintro e w20 hr
  obtain ⟨rfl, v20, h20, hc20, hn20⟩ := hr.at_ (d := ⟨[113, 114], 1, false, -1, 0, false⟩) (k := 0) rfl
  clear hr
  have hx20 : Ext w w20 := (hx19.alloc' _).then_ hc20 (by simp; exact hg17)
  replace bx := (bx.ext ((Ext.rfl' _).alloc' _)).chg hc20 bxo
  replace by_ := (by_.ext ((Ext.rfl' _).alloc' _)).chg hc20 by_o
  go_wp2_with fail
  refine Calls.mono (disk_crash g17 _ _ (-5) _ h20 (by decide)) ?_
  rintro e w21 ⟨rfl, v21, h21, hc21, hn21⟩
  replace h21 : DiskAt w21 g17 v21 ⟨[113], 1, false, -1, 0, true⟩ := h21
  have hx21 : Ext w w21 := hx20.then_ hc21 (by simp; exact hg17)
  replace bx := bx.chg hc21 bxo
  replace by_ := by_.chg hc21 by_o
  go_wp2_with fail
  refine Calls.mono (disk_power g17 _ _  _ h21) ?_
  rintro e w22 ⟨rfl, v22, h22, hc22, hn22⟩
  replace h22 : DiskAt w22 g17 v22 ⟨[113], 1, false, -1, 0, false⟩ := h22
  have hx22 : Ext w w22 := hx21.then_ hc22 (by simp; exact hg17)
  replace bx := bx.chg hc22 bxo
  replace by_ := by_.chg hc22 by_o
  go_wp2_with fail
  refine Calls.mono (disk_read g17 _ _ _ h22 rfl) ?_
  rintro e w23 ⟨y23, rfl, hw23, hz23⟩
  replace hw23 : Nw w22 w23 y23 [113] := hw23
  obtain ⟨A23, c23, rfl, -, -⟩ := own_slice (id hw23)
  have hx23 : Ext w w23 := hx22.trans' hz23
  have h23 := h22.ext hz23
  replace bx := bx.ext hz23
  replace by_ := by_.ext hz23
  have bz := hw23.bs
  obtain ⟨N, hN⟩ : ∃ N : Nat, (200000 : Int) = N := ⟨200000, rfl⟩
  obtain ⟨M, hM⟩ : ∃ M : Nat, (199999 : Int) = M := ⟨199999, rfl⟩
  have mk1 := make_u8 N (by omega) 200000 hN
  have mk2 := make_u8 M (by omega) 199999 hM
  have z1 := fun (w : World) => bs_zeros w N _ rfl (by simp [maxLen]; omega)
  have z2 := fun (w : World) => bs_zeros w M _ rfl (by simp [maxLen]; omega)
  generalize (List.replicate N (Value.int .u8 0)).toArray = Z1 at *
  generalize (List.replicate M (Value.int .u8 0)).toArray = Z2 at *
  have HN := hide hN
  have HM := hide hM
  have Z1' := hide z1
  have Z2' := hide z2
  clear hN hM z1 z2
  go_wp2_with fail
  refine Calls.mono (disk_append g17 _ _ _ (List.replicate N 0) _ (h23.box _) (Z1'.out _) ((Z1'.out _).off_new h23.blk.lt) (by have := HN.out; simp; omega)) ?_
  rintro e wa hr
  obtain ⟨rfl, va, ha, hca, hna⟩ := hr.at_ (op_full _ _ _ _ rfl (by have := HN.out; simp; omega))
  clear hr
  have hxa : Ext w wa := (hx23.alloc' _).then_ hca (by simp; exact hg17)
  replace bx := (bx.ext ((Ext.rfl' _).alloc' _)).chg hca bxo
  replace by_ := (by_.ext ((Ext.rfl' _).alloc' _)).chg hca by_o
  have bzo : Off _ [g17] := hw23.off (by simp; exact h22.blk.lt)
  replace bz := (bz.ext ((Ext.rfl' _).alloc' _)).chg hca bzo
  go_wp2_with fail
  refine Calls.mono (disk_append g17 _ _ _ (List.replicate M 0) _ (ha.box _) (Z2'.out _) ((Z2'.out _).off_new ha.blk.lt) (by have := HM.out; simp; omega)) ?_
  rintro e wb hr
  obtain ⟨rfl, vb, hb, hcb, hnb⟩ := hr.at_ (op_go _ _ _ _ rfl rfl (by have := HM.out; simp; omega))
  clear hr
  have hxb : Ext w wb := (hxa.alloc' _).then_ hcb (by simp; exact hg17)
  replace bx := (bx.ext ((Ext.rfl' _).alloc' _)).chg hcb bxo
  replace by_ := (by_.ext ((Ext.rfl' _).alloc' _)).chg hcb by_o
  replace bz := (bz.ext ((Ext.rfl' _).alloc' _)).chg hcb bzo
  have s1 := run_str (P := Try.prog) bx Try.underlying22 Try.underlying5 Try.underlying9
  have s2 := run_str (P := Try.prog) by_ Try.underlying22 Try.underlying5 Try.underlying9
  have s3 := run_str (P := Try.prog) bz Try.underlying22 Try.underlying5 Try.underlying9
  simp only [List.length_cons, List.length_nil, Nat.zero_add, Nat.reduceAdd] at s1 s2 s3
  go_wp2
  go_ret
  exact ⟨rfl, hxb⟩
end Go.Proofs.Ytlhokicnedkieaa
