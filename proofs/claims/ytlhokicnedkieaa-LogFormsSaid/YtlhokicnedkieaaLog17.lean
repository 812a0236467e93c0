/- LogForms. -/
import Derived.Test.YtlhokicnedkieaaLog8
import Derived.Lib.SlBytesConst
namespace Go.Proofs.Ytlhokicnedkieaa
set_option linter.unusedVariables false
set_option linter.unusedSimpArgs false
set_option linter.unnecessarySimpa false
set_option maxRecDepth 100000
open Go.RowKit
theorem Sl.lits {α : Type} {E : Enc α} {w : World} {X : Avoid} (T : TypeId) {css : List (List Value)} {l : List α} (h : Enc.Each E w X css l) (g : Nat) (hg : w.heap.size = g) (hX : ¬ X g) (hm : l.length ≤ maxLen) :
    Enc.Sl E (w.alloc (.cells css.flatten.toArray T)) X (.slice (some ⟨g, 0, none⟩) l.length l.length) l := by
  subst hg
  refine ⟨_, _, css, rfl, Nat.le_refl _, hm, ⟨h.len, fun _ => ⟨_, rfl, by simp, fun j u hu => ?_⟩⟩, fun ad he _ => ?_, h.ext ((Ext.rfl' w).alloc' _)⟩
  · have hadd : (⟨w.heap.size, 0, none⟩ : Addr).add j = ⟨w.heap.size, j, none⟩ := by unfold Addr.add; split <;> simp_all
    rw [hadd, cell_of_row _ _ _ _ _ _ (heap_alloc_new w _)]
    simpa using hu
  · rw [← Option.some.inj he]
    exact hX
def L4 : List Rec := [⟨1, ⟨1, 7⟩, En0, 0, Sn0⟩, ⟨2, Hd0, ⟨2, [100]⟩, 0, Sn0⟩, ⟨3, Hd0, En0, 3, Sn0⟩, ⟨4, Hd0, En0, 0, ⟨4, 5, [115]⟩⟩]
def B5 : List Rec := [⟨0, Hd0, En0, 0, Sn0⟩, ⟨5, Hd0, En0, 0, Sn0⟩, ⟨-1, Hd0, En0, 0, Sn0⟩, ⟨1, ⟨0, 8⟩, En0, 0, Sn0⟩, ⟨1, ⟨0, -1⟩, En0, 0, Sn0⟩]
theorem cases4 {α : Type} {a b c d x : α} {k : Nat} (h : [a, b, c, d][k]? = some x) : (k = 0 ∧ x = a) ∨ (k = 1 ∧ x = b) ∨ (k = 2 ∧ x = c) ∨ (k = 3 ∧ x = d) := by
  match k, h with
  | 0, h => exact .inl ⟨rfl, (Option.some.inj h).symm⟩
  | 1, h => exact .inr (.inl ⟨rfl, (Option.some.inj h).symm⟩)
  | 2, h => exact .inr (.inr (.inl ⟨rfl, (Option.some.inj h).symm⟩))
  | 3, h => exact .inr (.inr (.inr ⟨rfl, (Option.some.inj h).symm⟩))
  | k + 4, h => simp at h
theorem L4_ok {k : Nat} {r : Rec} (h : L4[k]? = some r) : may r = true ∧ r.wide ∧ r.small ∧ right [r] = [r] ∧ (#[.int .i64 18, .int .i64 18, .int .i64 17, .int .i64 26] : Array Value)[k]? = some (.int .i64 (lput [r]).length) := by
  rcases cases4 h with ⟨rfl, rfl⟩ | ⟨rfl, rfl⟩ | ⟨rfl, rfl⟩ | ⟨rfl, rfl⟩
  · exact ⟨rfl, by constructor <;> simp [En0, Sn0], by constructor <;> simp [En0, Sn0], rfl, by simp [lput, may, oframe_length, one, be_length]⟩
  · exact ⟨rfl, by constructor <;> simp [Hd0, Sn0], by constructor <;> simp [Sn0], rfl, by simp [lput, may, oframe_length, one, be_length]⟩
  · exact ⟨rfl, by constructor <;> simp [Hd0, En0, Sn0], by constructor <;> simp [En0, Sn0], rfl, by simp [lput, may, oframe_length, one, be_length]⟩
  · exact ⟨rfl, by constructor <;> simp [Hd0, En0], by constructor <;> simp [En0], rfl, by simp [lput, may, oframe_length, one, be_length]⟩
theorem cases5 {α : Type} {a b c d e x : α} {k : Nat} (h : [a, b, c, d, e][k]? = some x) : x = a ∨ x = b ∨ x = c ∨ x = d ∨ x = e := by
  have := List.mem_of_getElem? h
  simpa using this
theorem B5_ok {k : Nat} {r : Rec} (h : B5[k]? = some r) : may r = false ∧ r.wide ∧ r.small := by
  rcases cases5 h with rfl | rfl | rfl | rfl | rfl
  · exact ⟨rfl, by constructor <;> simp [Hd0, En0, Sn0], by constructor <;> simp [En0, Sn0]⟩
  · exact ⟨rfl, by constructor <;> simp [Hd0, En0, Sn0], by constructor <;> simp [En0, Sn0]⟩
  · exact ⟨rfl, by constructor <;> simp [Hd0, En0, Sn0], by constructor <;> simp [En0, Sn0]⟩
  · exact ⟨rfl, by constructor <;> simp [En0, Sn0], by constructor <;> simp [En0, Sn0]⟩
  · exact ⟨rfl, by constructor <;> simp [En0, Sn0], by constructor <;> simp [En0, Sn0]⟩
theorem L4_len : (lput L4).length = 79 := by simp [L4, lput, may, oframe_length, one, be_length]
def L3 : List Rec := [⟨1, ⟨1, 7⟩, En0, 0, Sn0⟩, ⟨0, Hd0, En0, 0, Sn0⟩, ⟨3, Hd0, En0, 3, Sn0⟩]
theorem L3_len : (lput L3).length = 35 := by simp [L3, lput, may, oframe_length, one, be_length]
set_option maxHeartbeats 6400000 in
theorem logForms_walk (w : World) : Calls Try.prog 11 #[] w fun e w' => e = .returned (.bool true) ∧ Ext w w' := by
  go_enter Try.func11, Try.ntmps11
  go_wp2_with fail
  refine (begun22_b _).mono ?_
  rintro e W1 ⟨rfl, hx1⟩
  have kc := fun (w : World) (C : Array Value) (n c : Nat) => Lib.run_convert_bytes_const (P := Try.prog) w 22 5 C n c Try.underlying22 Try.underlying5
  obtain ⟨g, hg⟩ : ∃ g, W1.heap.size = g := ⟨_, rfl⟩
  have hb1 : Bs (W1.alloc (.cells #[.int .u8 100] 5 (1, 2))) (.slice (some ⟨g, 0, none⟩) 1 1) [100] := Bs.lit 5 [100] g hg (by simp [maxLen]) (1, 2)
  have hxa : Ext W1 (W1.alloc (.cells #[.int .u8 100] 5 (1, 2))) := (Ext.rfl' W1).alloc' _
  have hb2 : Bs ((W1.alloc (.cells #[.int .u8 100] 5 (1, 2))).alloc (.cells #[.int .u8 115] 5 (1, 2))) (.slice (some ⟨g + 1, 0, none⟩) 1 1) [115] := Bs.lit 5 [115] (g + 1) (by simp [hg]) (by simp [maxLen]) (1, 2)
  have hxb : Ext (W1.alloc (.cells #[.int .u8 100] 5 (1, 2))) ((W1.alloc (.cells #[.int .u8 100] 5 (1, 2))).alloc (.cells #[.int .u8 115] 5 (1, 2))) := (Ext.rfl' (W1.alloc (.cells #[.int .u8 100] 5 (1, 2)))).alloc' _
  replace hb1 := hb1.ext hxb
  have hxc := hx1.trans' (hxa.trans' hxb)
  have hsz : ((W1.alloc (.cells #[.int .u8 100] 5 (1, 2))).alloc (.cells #[.int .u8 115] 5 (1, 2))).heap.size = g + 1 + 1 := by simp [hg]
  have kc1 := kc W1 #[.int .u8 100] 1 1
  have kc2 := kc (W1.alloc (.cells #[.int .u8 100] 5 (1, 2))) #[.int .u8 115] 1 1
  have hs1 : (W1.alloc (.cells #[.int .u8 100] 5 (1, 2))).heap.size = g + 1 := by simp [hg]
  rw [hg] at kc1
  rw [hs1] at kc2
  clear kc hs1
  go_upto_region 5 with fail
  generalize ((W1.alloc (.cells #[.int .u8 100] 5 (1, 2))).alloc (.cells #[.int .u8 115] 5 (1, 2))) = Wb at *
  clear hxa hxb kc1 kc2 hx1 hg
  have hwd : ∀ (k : Nat) (r : Rec), L4[k]? = some r → r.wide := fun k r h => (L4_ok h).2.1
  have hL : Enc.Sl reE (Wb.alloc (.cells #[.int .i64 1, .int .u64 1, .int .i64 7, .int .u64 0, .slice none 0 0, .int .u64 0, .int .u64 0, .int .u64 0, .slice none 0 0, .int .i64 2, .int .u64 0, .int .i64 0, .int .u64 2, .slice (some ⟨g, 0, none⟩) 1 1, .int .u64 0, .int .u64 0, .int .u64 0, .slice none 0 0, .int .i64 3, .int .u64 0, .int .i64 0, .int .u64 0, .slice none 0 0, .int .u64 3, .int .u64 0, .int .u64 0, .slice none 0 0, .int .i64 4, .int .u64 0, .int .i64 0, .int .u64 0, .slice none 0 0, .int .u64 0, .int .u64 4, .int .u64 5, .slice (some ⟨g + 1, 0, none⟩) 1 1] 57)) noneAt (.slice (some ⟨g + 1 + 1, 0, none⟩) 4 4) L4 :=
    Sl.lits 57 (l := L4) (css := [recells ⟨1, ⟨1, 7⟩, En0, 0, Sn0⟩ (.slice none 0 0) (.slice none 0 0), recells ⟨2, Hd0, ⟨2, [100]⟩, 0, Sn0⟩ (.slice (some ⟨g, 0, none⟩) 1 1) (.slice none 0 0), recells ⟨3, Hd0, En0, 3, Sn0⟩ (.slice none 0 0) (.slice none 0 0), recells ⟨4, Hd0, En0, 0, ⟨4, 5, [115]⟩⟩ (.slice none 0 0) (.slice (some ⟨g + 1, 0, none⟩) 1 1)])
      ((Enc.Each.single (re_rep.2 ⟨_, _, rfl, hwd 0 _ rfl, Enc.BsX.nil _ _, Enc.BsX.nil _ _⟩)).app ((Enc.Each.single (re_rep.2 ⟨_, _, rfl, hwd 1 _ rfl, Enc.BsX.of hb1, Enc.BsX.nil _ _⟩)).app ((Enc.Each.single (re_rep.2 ⟨_, _, rfl, hwd 2 _ rfl, Enc.BsX.nil _ _, Enc.BsX.nil _ _⟩)).app (Enc.Each.single (re_rep.2 ⟨_, _, rfl, hwd 3 _ rfl, Enc.BsX.nil _ _, Enc.BsX.of hb2⟩)))))
      (g + 1 + 1) hsz (fun h => h) (by simp [L4, maxLen])
  have hxd : Ext Wb (Wb.alloc (.cells #[.int .i64 1, .int .u64 1, .int .i64 7, .int .u64 0, .slice none 0 0, .int .u64 0, .int .u64 0, .int .u64 0, .slice none 0 0, .int .i64 2, .int .u64 0, .int .i64 0, .int .u64 2, .slice (some ⟨g, 0, none⟩) 1 1, .int .u64 0, .int .u64 0, .int .u64 0, .slice none 0 0, .int .i64 3, .int .u64 0, .int .i64 0, .int .u64 0, .slice none 0 0, .int .u64 3, .int .u64 0, .int .u64 0, .slice none 0 0, .int .i64 4, .int .u64 0, .int .i64 0, .int .u64 0, .slice none 0 0, .int .u64 0, .int .u64 4, .int .u64 5, .slice (some ⟨g + 1, 0, none⟩) 1 1] 57)) := (Ext.rfl' Wb).alloc' _
  have hsd : (Wb.alloc (.cells #[.int .i64 1, .int .u64 1, .int .i64 7, .int .u64 0, .slice none 0 0, .int .u64 0, .int .u64 0, .int .u64 0, .slice none 0 0, .int .i64 2, .int .u64 0, .int .i64 0, .int .u64 2, .slice (some ⟨g, 0, none⟩) 1 1, .int .u64 0, .int .u64 0, .int .u64 0, .slice none 0 0, .int .i64 3, .int .u64 0, .int .i64 0, .int .u64 0, .slice none 0 0, .int .u64 3, .int .u64 0, .int .u64 0, .slice none 0 0, .int .i64 4, .int .u64 0, .int .i64 0, .int .u64 0, .slice none 0 0, .int .u64 0, .int .u64 4, .int .u64 5, .slice (some ⟨g + 1, 0, none⟩) 1 1] 57)).heap.size = g + 1 + 1 + 1 := by simp [hsz]
  have hBL := Blk.new Wb 57 #[.int .i64 1, .int .u64 1, .int .i64 7, .int .u64 0, .slice none 0 0, .int .u64 0, .int .u64 0, .int .u64 0, .slice none 0 0, .int .i64 2, .int .u64 0, .int .i64 0, .int .u64 2, .slice (some ⟨g, 0, none⟩) 1 1, .int .u64 0, .int .u64 0, .int .u64 0, .slice none 0 0, .int .i64 3, .int .u64 0, .int .i64 0, .int .u64 0, .slice none 0 0, .int .u64 3, .int .u64 0, .int .u64 0, .slice none 0 0, .int .i64 4, .int .u64 0, .int .i64 0, .int .u64 0, .slice none 0 0, .int .u64 0, .int .u64 4, .int .u64 5, .slice (some ⟨g + 1, 0, none⟩) 1 1]
  rw [hsz] at hBL
  generalize Wb.alloc (.cells #[.int .i64 1, .int .u64 1, .int .i64 7, .int .u64 0, .slice none 0 0, .int .u64 0, .int .u64 0, .int .u64 0, .slice none 0 0, .int .i64 2, .int .u64 0, .int .i64 0, .int .u64 2, .slice (some ⟨g, 0, none⟩) 1 1, .int .u64 0, .int .u64 0, .int .u64 0, .slice none 0 0, .int .i64 3, .int .u64 0, .int .i64 0, .int .u64 0, .slice none 0 0, .int .u64 3, .int .u64 0, .int .u64 0, .slice none 0 0, .int .i64 4, .int .u64 0, .int .i64 0, .int .u64 0, .slice none 0 0, .int .u64 0, .int .u64 4, .int .u64 5, .slice (some ⟨g + 1, 0, none⟩) 1 1] 57) = Wc at *
  have hSZ := Blk.new Wc 3 #[.int .i64 18, .int .i64 18, .int .i64 17, .int .i64 26]
  rw [hsd] at hSZ
  have hxe : Ext Wc (Wc.alloc (.cells #[.int .i64 18, .int .i64 18, .int .i64 17, .int .i64 26] 3)) := (Ext.rfl' Wc).alloc' _
  replace hL := hL.ext hxe
  replace hBL := hBL.ext hxe
  replace hxc := (hxc.trans' hxd).trans' hxe
  clear hxd hsd hb1 hb2 hsz
  generalize Wc.alloc (.cells #[.int .i64 18, .int .i64 18, .int .i64 17, .int .i64 26] 3) = Wd at *
  obtain ⟨aL, haL⟩ : ∃ a : Addr, (⟨g + 1 + 1, 0, none⟩ : Addr) = a := ⟨_, rfl⟩
  have HAL := hide haL
  rw [haL] at hL
  go_upto_region 5 with fail
  rw [haL]
  clear haL
  go_wp2_with fail
  go_loopw [3] (fun vi wr => ∃ k : Nat, (k : Int) ≤ 4 ∧ vi = .int .i64 k ∧ Ext Wd wr) (fun vi _ => (4 - intOf vi).toNat)
  case atStart => exact ⟨0, by omega, rfl, Ext.rfl' _⟩
  case round =>
    obtain ⟨k, hk, rfl, hxr⟩ := hrel
    by_cases hlt : (k : Int) < 4
    · have HLT := hide hlt
      obtain ⟨ad, r, v1, v2, had, hr, hbk, p0, p1, p2, p3, p4, p5, p6, p7, p8, r1, r2, r3⟩ := re_at (hL.ext hxr) (k := k) (by simp [L4]; omega)
      obtain rfl := Option.some.inj had
      clear had
      obtain ⟨hmy, -, hsm, hri, hsz⟩ := L4_ok hr.out
      obtain ⟨A1, c1, rfl, -, -, -⟩ := id r2.1
      obtain ⟨A2, c2, rfl, -, -, -⟩ := id r3.1
      have hlit := Sl.one 57 (E := reE) (w := wr) (X := noneAt) (cs := recells r (.slice A1 r.ent.data.length c1) (.slice A2 r.snap.state.length c2)) (a := r) (re_rep.2 ⟨_, _, rfl, r1, r2, r3⟩) wr.heap.size rfl (fun h => h)
      have hxa : Ext wr (wr.alloc (.cells (recells r (.slice A1 r.ent.data.length c1) (.slice A2 r.snap.state.length c2)).toArray 57)) := (Ext.rfl' wr).alloc' _
      have HRO : Hid (∀ q ∈ [r], q.wide ∧ q.small) := fun q hq => by rw [List.mem_singleton.1 hq]; exact ⟨r1, hsm⟩
      have HMY := hide hmy
      have HRI := hide hri
      have HSZ2 := hide ((hSZ.cell k).trans hsz)
      have hol : (lput [r]).length ≤ 85 := by have := lput_len (l := [r]) (fun q hq => (HRO.out q hq).2); simpa using this
      clear hmy hri hsz
      go_wp2_with fail
      refine (lputs_b _ [r] _ (by simp) hlit HRO.out).mono ?_
      rintro e W5 ⟨m, Am, cm, hm, rfl, hap, hx5⟩
      rw [← hm.out] at hol HSZ2
      have hx15 := hxa.trans' hx5
      clear hlit
      go_wp2_with fail
      refine (scan_b _ m _ (by omega) hap.bs).mono ?_
      rintro e W6 ⟨l5, A5, c5, n5, hln, rfl, hown5, hx6⟩
      have hsa : (l5, n5) = ([r], m.length) := by rw [hln.out, hm.out, scan_all HRO.out, HRI.out]
      obtain ⟨rfl, rfl⟩ := Prod.mk.inj hsa
      have hx16 := hx15.trans' hx6
      obtain ⟨ad5, r', u1, u2, rfl, hr', hbk5, s0, -⟩ := re_at hown5.sl (k := 0) (by simp)
      obtain rfl : r = r' := Option.some.inj hr'.out
      replace s0 : W6.cell? ad5 = some (.int .i64 r.kind) := s0
      go_upto_region 10 with fail
      have hab : (aL.add (k * 9)).block < wr.heap.size := by rw [block_of_add]; exact hbk
      have hS6 : W6.cell? ⟨g + 1 + 1 + 1, k, none⟩ = some (.int .i64 m.length) := ((hxr.trans' hx16).cell (p := ⟨g + 1 + 1 + 1, k, none⟩) hSZ.lt).trans HSZ2.out
      have hslt : g + 1 + 1 + 1 < W6.heap.size := Nat.lt_of_lt_of_le hSZ.lt (hxr.trans' hx16).size
      have hab6 : (aL.add (k * 9)).block < W6.heap.size := Nat.lt_of_lt_of_le hab hx16.size
      replace p0 := (hx16.cell (p := aL.add (k * 9)) hab).trans p0
      replace p1 := (hx16.cell (p := ⟨(aL.add (k * 9)).block, (aL.add (k * 9)).off + 1, none⟩) hab).trans p1
      replace p2 := (hx16.cell (p := ⟨(aL.add (k * 9)).block, (aL.add (k * 9)).off + 2, none⟩) hab).trans p2
      replace p3 := (hx16.cell (p := ⟨(aL.add (k * 9)).block, (aL.add (k * 9)).off + 3, none⟩) hab).trans p3
      replace p4 := (hx16.cell (p := ⟨(aL.add (k * 9)).block, (aL.add (k * 9)).off + 4, none⟩) hab).trans p4
      replace p5 := (hx16.cell (p := ⟨(aL.add (k * 9)).block, (aL.add (k * 9)).off + 5, none⟩) hab).trans p5
      replace p6 := (hx16.cell (p := ⟨(aL.add (k * 9)).block, (aL.add (k * 9)).off + 6, none⟩) hab).trans p6
      replace p7 := (hx16.cell (p := ⟨(aL.add (k * 9)).block, (aL.add (k * 9)).off + 7, none⟩) hab).trans p7
      replace p8 := (hx16.cell (p := ⟨(aL.add (k * 9)).block, (aL.add (k * 9)).off + 8, none⟩) hab).trans p8
      have hb1 : (0 : Int) ≤ k := by omega
      have hb2' : (k : Int) < 4 := hlt
      refine Rg.regionT Try.checked.mixed 125 38 (by kernel_rfl) [
        (fun x_ _ => x_ = .slice Am m.length cm),
        (fun x_ _ => x_ = .int .i64 m.length),
        (fun x_ _ => x_ = .slice (some ⟨g + 1 + 1 + 1, 0, none⟩) 4 4),
        (fun x_ _ => x_ = .int .i64 k),
        (fun x_ _ => x_ = .pointer (some ⟨g + 1 + 1 + 1, k, none⟩)),
        (fun x_ _ => x_ = .int .i64 m.length),
        (fun x_ _ => x_ = .bool false),
        (fun x_ _ => x_ = .bool false),
        (fun x_ _ => x_ = .int .i64 m.length),
        (fun x_ _ => x_ = .slice Am m.length cm),
        (fun x_ _ => x_ = .int .i64 m.length),
        (fun x_ _ => x_ = .bool false),
        (fun x_ _ => x_ = .bool false),
        (fun x_ _ => x_ = .bool false),
        (fun x_ _ => x_ = .slice (some ad5) 1 c5),
        (fun x_ _ => x_ = .int .i64 1),
        (fun x_ _ => x_ = .bool false),
        (fun x_ _ => x_ = .bool false),
        (fun x_ _ => x_ = .bool false),
        (fun x_ _ => x_ = .slice (some ad5) 1 c5),
        (fun x_ _ => x_ = .pointer (some ad5)),
        (fun x_ _ => x_ = .pointer (some ad5)),
        (fun x_ _ => x_ = .int .i64 r.kind),
        (fun x_ _ => x_ = .slice (some aL) 4 4),
        (fun x_ _ => x_ = .int .i64 k),
        (fun x_ _ => x_ = .pointer (some (aL.add (k * 9)))),
        (fun x_ _ => x_ = .pointer (some (aL.add (k * 9)))),
        (fun x_ _ => x_ = .int .i64 r.kind),
        (fun x_ _ => x_ = .bool false),
        (fun x_ _ => x_ = .bool false),
        (fun x_ _ => x_ = .bool false),
        (fun x_ _ => x_ = .slice (some aL) 4 4),
        (fun x_ _ => x_ = .int .i64 k),
        (fun x_ _ => x_ = .pointer (some (aL.add (k * 9)))),
        (fun x_ _ => x_ = .agg #[.int .i64 r.kind, .int .u64 r.hard.term, .int .i64 r.hard.vote, .int .u64 r.ent.term, .slice A1 r.ent.data.length c1, .int .u64 r.index, .int .u64 r.snap.index, .int .u64 r.snap.term, .slice A2 r.snap.state.length c2]),
        (fun x_ _ => x_ = .bool true),
        (fun x_ _ => x_ = .bool false),
        (fun x_ _ => x_ = .bool false)] (fun W => Ext W6 W) Ext rfl rfl rfl
        ?st ((Ext.rfl' W6).drew') ?ob ?en
      case st => exact ⟨fun _ _ _ h _ => h, fun _ _ _ h _ => h, fun _ _ _ h _ => h, fun _ _ _ h _ => h, fun _ _ _ h _ => h, fun _ _ _ h _ => h, fun _ _ _ h _ => h, fun _ _ _ h _ => h, fun _ _ _ h _ => h, fun _ _ _ h _ => h, fun _ _ _ h _ => h, fun _ _ _ h _ => h, fun _ _ _ h _ => h, fun _ _ _ h _ => h, fun _ _ _ h _ => h, fun _ _ _ h _ => h, fun _ _ _ h _ => h, fun _ _ _ h _ => h, fun _ _ _ h _ => h, fun _ _ _ h _ => h, fun _ _ _ h _ => h, fun _ _ _ h _ => h, fun _ _ _ h _ => h, fun _ _ _ h _ => h, fun _ _ _ h _ => h, fun _ _ _ h _ => h, fun _ _ _ h _ => h, fun _ _ _ h _ => h, fun _ _ _ h _ => h, fun _ _ _ h _ => h, fun _ _ _ h _ => h, fun _ _ _ h _ => h, fun _ _ _ h _ => h, fun _ _ _ h _ => h, fun _ _ _ h _ => h, fun _ _ _ h _ => h, fun _ _ _ h _ => h, fun _ _ _ h _ => h, trivial⟩
      case ob =>
        refine ⟨Rg.at_run [4] rfl ?_, ?_⟩
        · intro ρ W hR ⟨q4, _⟩
          replace q4 : ρ 4 = .slice Am m.length cm := q4
          refine ⟨rfl, ?_⟩
          exact Rg.run_ok (v := .slice Am m.length cm) (by simp [execOp, Rg.ev, go_sem, q4]) ⟨rfl, hR, Ext.rfl' _⟩
        refine ⟨Rg.at_run [39] rfl ?_, ?_⟩
        · intro ρ W hR ⟨q39, _⟩
          replace q39 : ρ 39 = .slice Am m.length cm := q39
          refine ⟨rfl, ?_⟩
          exact Rg.run_ok (v := .int .i64 m.length) (by simp [execOp, Rg.ev, go_sem, q39]) ⟨rfl, hR, Ext.rfl' _⟩
        refine ⟨Rg.at_run [2] rfl ?_, ?_⟩
        · intro ρ W hR ⟨q2, _⟩
          replace q2 : ρ 2 = .slice (some ⟨g + 1 + 1 + 1, 0, none⟩) 4 4 := q2
          refine ⟨rfl, ?_⟩
          exact Rg.run_ok (v := .slice (some ⟨g + 1 + 1 + 1, 0, none⟩) 4 4) (by simp [execOp, Rg.ev, go_sem, q2]) ⟨rfl, hR, Ext.rfl' _⟩
        refine ⟨Rg.at_run [3] rfl ?_, ?_⟩
        · intro ρ W hR ⟨q3, _⟩
          replace q3 : ρ 3 = .int .i64 k := q3
          refine ⟨rfl, ?_⟩
          exact Rg.run_ok (v := .int .i64 k) (by simp [execOp, Rg.ev, go_sem, q3]) ⟨rfl, hR, Ext.rfl' _⟩
        refine ⟨Rg.at_run [41, 42] rfl ?_, ?_⟩
        · intro ρ W hR ⟨q41, q42, _⟩
          replace q41 : ρ 41 = .slice (some ⟨g + 1 + 1 + 1, 0, none⟩) 4 4 := q41
          replace q42 : ρ 42 = .int .i64 k := q42
          refine ⟨rfl, ?_⟩
          exact Rg.run_ok (v := .pointer (some ⟨g + 1 + 1 + 1, k, none⟩)) (by simp [execOp, Rg.ev, go_sem, q41, q42, hb1, hb2']) ⟨rfl, hR, Ext.rfl' _⟩
        refine ⟨Rg.at_run [43] rfl ?_, ?_⟩
        · intro ρ W hR ⟨q43, _⟩
          replace q43 : ρ 43 = .pointer (some ⟨g + 1 + 1 + 1, k, none⟩) := q43
          refine ⟨rfl, ?_⟩
          have c_ : W.cell? (⟨g + 1 + 1 + 1, k, none⟩) = some (.int .i64 m.length) := (hR.cell (p := ⟨g + 1 + 1 + 1, k, none⟩) hslt).trans hS6
          exact Rg.run_ok (v := .int .i64 m.length) (by simp [execOp, Rg.ev, go_sem, q43, c_]) ⟨rfl, hR, Ext.rfl' _⟩
        refine ⟨Rg.at_run [40, 44] rfl ?_, ?_⟩
        · intro ρ W hR ⟨q40, q44, _⟩
          replace q40 : ρ 40 = .int .i64 m.length := q40
          replace q44 : ρ 44 = .int .i64 m.length := q44
          refine ⟨rfl, ?_⟩
          exact Rg.run_ok (v := .bool false) (by simp [execOp, Rg.ev, go_sem, q40, q44]) ⟨rfl, hR, Ext.rfl' _⟩
        refine ⟨Rg.at_run [45] rfl ?_, ?_⟩
        · intro ρ W hR ⟨q45, _⟩
          replace q45 : ρ 45 = .bool false := q45
          refine ⟨rfl, ?_⟩
          exact Rg.run_ok (v := .bool false) (by simp [execOp, Rg.ev, go_sem, q45]) ⟨rfl, hR, Ext.rfl' _⟩
        refine ⟨Rg.at_run [6, 46] rfl ?_, ?_⟩
        · intro ρ W hR ⟨q6, q46, _⟩
          replace q6 : ρ 6 = .int .i64 m.length := q6
          replace q46 : ρ 46 = .bool false := q46
          refine ⟨by simp [Rg.wants, q46], ?_⟩
          exact Rg.run_ok (v := .int .i64 m.length) (by simp [execOp, Rg.ev, go_sem, q6]) ⟨rfl, hR, Ext.rfl' _⟩
        refine ⟨Rg.at_run [4, 46] rfl ?_, ?_⟩
        · intro ρ W hR ⟨q4, q46, _⟩
          replace q4 : ρ 4 = .slice Am m.length cm := q4
          replace q46 : ρ 46 = .bool false := q46
          refine ⟨by simp [Rg.wants, q46], ?_⟩
          exact Rg.run_ok (v := .slice Am m.length cm) (by simp [execOp, Rg.ev, go_sem, q4]) ⟨rfl, hR, Ext.rfl' _⟩
        refine ⟨Rg.at_run [48, 46] rfl ?_, ?_⟩
        · intro ρ W hR ⟨q48, q46, _⟩
          replace q48 : ρ 48 = .slice Am m.length cm := q48
          replace q46 : ρ 46 = .bool false := q46
          refine ⟨by simp [Rg.wants, q46], ?_⟩
          exact Rg.run_ok (v := .int .i64 m.length) (by simp [execOp, Rg.ev, go_sem, q48]) ⟨rfl, hR, Ext.rfl' _⟩
        refine ⟨Rg.at_run [47, 49, 46] rfl ?_, ?_⟩
        · intro ρ W hR ⟨q47, q49, q46, _⟩
          replace q47 : ρ 47 = .int .i64 m.length := q47
          replace q49 : ρ 49 = .int .i64 m.length := q49
          replace q46 : ρ 46 = .bool false := q46
          refine ⟨by simp [Rg.wants, q46], ?_⟩
          exact Rg.run_ok (v := .bool false) (by simp [execOp, Rg.ev, go_sem, q47, q49]) ⟨rfl, hR, Ext.rfl' _⟩
        refine ⟨Rg.at_run [46, 50] rfl ?_, ?_⟩
        · intro ρ W hR ⟨q46, q50, _⟩
          replace q46 : ρ 46 = .bool false := q46
          replace q50 : ρ 50 = .bool false := q50
          refine ⟨rfl, ?_⟩
          exact Rg.run_ok (v := .bool false) (by simp [execOp, Rg.ev, go_sem, q46, q50]) ⟨rfl, hR, Ext.rfl' _⟩
        refine ⟨Rg.at_run [51] rfl ?_, ?_⟩
        · intro ρ W hR ⟨q51, _⟩
          replace q51 : ρ 51 = .bool false := q51
          refine ⟨rfl, ?_⟩
          exact Rg.run_ok (v := .bool false) (by simp [execOp, Rg.ev, go_sem, q51]) ⟨rfl, hR, Ext.rfl' _⟩
        refine ⟨Rg.at_run [5, 52] rfl ?_, ?_⟩
        · intro ρ W hR ⟨q5, q52, _⟩
          replace q5 : ρ 5 = .slice (some ad5) 1 c5 := q5
          replace q52 : ρ 52 = .bool false := q52
          refine ⟨by simp [Rg.wants, q52], ?_⟩
          exact Rg.run_ok (v := .slice (some ad5) 1 c5) (by simp [execOp, Rg.ev, go_sem, q5]) ⟨rfl, hR, Ext.rfl' _⟩
        refine ⟨Rg.at_run [53, 52] rfl ?_, ?_⟩
        · intro ρ W hR ⟨q53, q52, _⟩
          replace q53 : ρ 53 = .slice (some ad5) 1 c5 := q53
          replace q52 : ρ 52 = .bool false := q52
          refine ⟨by simp [Rg.wants, q52], ?_⟩
          exact Rg.run_ok (v := .int .i64 1) (by simp [execOp, Rg.ev, go_sem, q53]) ⟨rfl, hR, Ext.rfl' _⟩
        refine ⟨Rg.at_run [54, 52] rfl ?_, ?_⟩
        · intro ρ W hR ⟨q54, q52, _⟩
          replace q54 : ρ 54 = .int .i64 1 := q54
          replace q52 : ρ 52 = .bool false := q52
          refine ⟨by simp [Rg.wants, q52], ?_⟩
          exact Rg.run_ok (v := .bool false) (by simp [execOp, Rg.ev, go_sem, q54]) ⟨rfl, hR, Ext.rfl' _⟩
        refine ⟨Rg.at_run [52, 55] rfl ?_, ?_⟩
        · intro ρ W hR ⟨q52, q55, _⟩
          replace q52 : ρ 52 = .bool false := q52
          replace q55 : ρ 55 = .bool false := q55
          refine ⟨rfl, ?_⟩
          exact Rg.run_ok (v := .bool false) (by simp [execOp, Rg.ev, go_sem, q52, q55]) ⟨rfl, hR, Ext.rfl' _⟩
        refine ⟨Rg.at_run [56] rfl ?_, ?_⟩
        · intro ρ W hR ⟨q56, _⟩
          replace q56 : ρ 56 = .bool false := q56
          refine ⟨rfl, ?_⟩
          exact Rg.run_ok (v := .bool false) (by simp [execOp, Rg.ev, go_sem, q56]) ⟨rfl, hR, Ext.rfl' _⟩
        refine ⟨Rg.at_run [5, 57] rfl ?_, ?_⟩
        · intro ρ W hR ⟨q5, q57, _⟩
          replace q5 : ρ 5 = .slice (some ad5) 1 c5 := q5
          replace q57 : ρ 57 = .bool false := q57
          refine ⟨by simp [Rg.wants, q57], ?_⟩
          exact Rg.run_ok (v := .slice (some ad5) 1 c5) (by simp [execOp, Rg.ev, go_sem, q5]) ⟨rfl, hR, Ext.rfl' _⟩
        refine ⟨Rg.at_run [58, 57] rfl ?_, ?_⟩
        · intro ρ W hR ⟨q58, q57, _⟩
          replace q58 : ρ 58 = .slice (some ad5) 1 c5 := q58
          replace q57 : ρ 57 = .bool false := q57
          refine ⟨by simp [Rg.wants, q57], ?_⟩
          exact Rg.run_ok (v := .pointer (some ad5)) (by simp [execOp, Rg.ev, go_sem, q58]) ⟨rfl, hR, Ext.rfl' _⟩
        refine ⟨Rg.at_run [59, 57] rfl ?_, ?_⟩
        · intro ρ W hR ⟨q59, q57, _⟩
          replace q59 : ρ 59 = .pointer (some ad5) := q59
          replace q57 : ρ 57 = .bool false := q57
          refine ⟨by simp [Rg.wants, q57], ?_⟩
          exact Rg.run_ok (v := .pointer (some ad5)) (by simp [execOp, Rg.ev, go_sem, q59]) ⟨rfl, hR, Ext.rfl' _⟩
        refine ⟨Rg.at_run [60, 57] rfl ?_, ?_⟩
        · intro ρ W hR ⟨q60, q57, _⟩
          replace q60 : ρ 60 = .pointer (some ad5) := q60
          replace q57 : ρ 57 = .bool false := q57
          refine ⟨by simp [Rg.wants, q57], ?_⟩
          have c_ : W.cell? (ad5) = some (.int .i64 r.kind) := (hR.cell (p := ad5) hbk5).trans s0
          exact Rg.run_ok (v := .int .i64 r.kind) (by simp [execOp, Rg.ev, go_sem, q60, c_]) ⟨rfl, hR, Ext.rfl' _⟩
        refine ⟨Rg.at_run [1, 57] rfl ?_, ?_⟩
        · intro ρ W hR ⟨q1, q57, _⟩
          replace q1 : ρ 1 = .slice (some aL) 4 4 := q1
          replace q57 : ρ 57 = .bool false := q57
          refine ⟨by simp [Rg.wants, q57], ?_⟩
          exact Rg.run_ok (v := .slice (some aL) 4 4) (by simp [execOp, Rg.ev, go_sem, q1]) ⟨rfl, hR, Ext.rfl' _⟩
        refine ⟨Rg.at_run [3, 57] rfl ?_, ?_⟩
        · intro ρ W hR ⟨q3, q57, _⟩
          replace q3 : ρ 3 = .int .i64 k := q3
          replace q57 : ρ 57 = .bool false := q57
          refine ⟨by simp [Rg.wants, q57], ?_⟩
          exact Rg.run_ok (v := .int .i64 k) (by simp [execOp, Rg.ev, go_sem, q3]) ⟨rfl, hR, Ext.rfl' _⟩
        refine ⟨Rg.at_run [62, 63, 57] rfl ?_, ?_⟩
        · intro ρ W hR ⟨q62, q63, q57, _⟩
          replace q62 : ρ 62 = .slice (some aL) 4 4 := q62
          replace q63 : ρ 63 = .int .i64 k := q63
          replace q57 : ρ 57 = .bool false := q57
          refine ⟨by simp [Rg.wants, q57], ?_⟩
          exact Rg.run_ok (v := .pointer (some (aL.add (k * 9)))) (by simp [execOp, Rg.ev, go_sem, q62, q63, hb1, hb2']) ⟨rfl, hR, Ext.rfl' _⟩
        refine ⟨Rg.at_run [64, 57] rfl ?_, ?_⟩
        · intro ρ W hR ⟨q64, q57, _⟩
          replace q64 : ρ 64 = .pointer (some (aL.add (k * 9))) := q64
          replace q57 : ρ 57 = .bool false := q57
          refine ⟨by simp [Rg.wants, q57], ?_⟩
          exact Rg.run_ok (v := .pointer (some (aL.add (k * 9)))) (by simp [execOp, Rg.ev, go_sem, q64]) ⟨rfl, hR, Ext.rfl' _⟩
        refine ⟨Rg.at_run [65, 57] rfl ?_, ?_⟩
        · intro ρ W hR ⟨q65, q57, _⟩
          replace q65 : ρ 65 = .pointer (some (aL.add (k * 9))) := q65
          replace q57 : ρ 57 = .bool false := q57
          refine ⟨by simp [Rg.wants, q57], ?_⟩
          have c_ : W.cell? (aL.add (k * 9)) = some (.int .i64 r.kind) := (hR.cell (p := aL.add (k * 9)) hab6).trans p0
          exact Rg.run_ok (v := .int .i64 r.kind) (by simp [execOp, Rg.ev, go_sem, q65, c_]) ⟨rfl, hR, Ext.rfl' _⟩
        refine ⟨Rg.at_run [61, 66, 57] rfl ?_, ?_⟩
        · intro ρ W hR ⟨q61, q66, q57, _⟩
          replace q61 : ρ 61 = .int .i64 r.kind := q61
          replace q66 : ρ 66 = .int .i64 r.kind := q66
          replace q57 : ρ 57 = .bool false := q57
          refine ⟨by simp [Rg.wants, q57], ?_⟩
          exact Rg.run_ok (v := .bool false) (by simp [execOp, Rg.ev, go_sem, q61, q66]) ⟨rfl, hR, Ext.rfl' _⟩
        refine ⟨Rg.at_run [57, 67] rfl ?_, ?_⟩
        · intro ρ W hR ⟨q57, q67, _⟩
          replace q57 : ρ 57 = .bool false := q57
          replace q67 : ρ 67 = .bool false := q67
          refine ⟨rfl, ?_⟩
          exact Rg.run_ok (v := .bool false) (by simp [execOp, Rg.ev, go_sem, q57, q67]) ⟨rfl, hR, Ext.rfl' _⟩
        refine ⟨Rg.at_run [68] rfl ?_, ?_⟩
        · intro ρ W hR ⟨q68, _⟩
          replace q68 : ρ 68 = .bool false := q68
          refine ⟨rfl, ?_⟩
          exact Rg.run_ok (v := .bool false) (by simp [execOp, Rg.ev, go_sem, q68]) ⟨rfl, hR, Ext.rfl' _⟩
        refine ⟨Rg.at_run [1, 69] rfl ?_, ?_⟩
        · intro ρ W hR ⟨q1, q69, _⟩
          replace q1 : ρ 1 = .slice (some aL) 4 4 := q1
          replace q69 : ρ 69 = .bool false := q69
          refine ⟨by simp [Rg.wants, q69], ?_⟩
          exact Rg.run_ok (v := .slice (some aL) 4 4) (by simp [execOp, Rg.ev, go_sem, q1]) ⟨rfl, hR, Ext.rfl' _⟩
        refine ⟨Rg.at_run [3, 69] rfl ?_, ?_⟩
        · intro ρ W hR ⟨q3, q69, _⟩
          replace q3 : ρ 3 = .int .i64 k := q3
          replace q69 : ρ 69 = .bool false := q69
          refine ⟨by simp [Rg.wants, q69], ?_⟩
          exact Rg.run_ok (v := .int .i64 k) (by simp [execOp, Rg.ev, go_sem, q3]) ⟨rfl, hR, Ext.rfl' _⟩
        refine ⟨Rg.at_run [70, 71, 69] rfl ?_, ?_⟩
        · intro ρ W hR ⟨q70, q71, q69, _⟩
          replace q70 : ρ 70 = .slice (some aL) 4 4 := q70
          replace q71 : ρ 71 = .int .i64 k := q71
          replace q69 : ρ 69 = .bool false := q69
          refine ⟨by simp [Rg.wants, q69], ?_⟩
          exact Rg.run_ok (v := .pointer (some (aL.add (k * 9)))) (by simp [execOp, Rg.ev, go_sem, q70, q71, hb1, hb2']) ⟨rfl, hR, Ext.rfl' _⟩
        refine ⟨Rg.at_run [72, 69] rfl ?_, ?_⟩
        · intro ρ W hR ⟨q72, q69, _⟩
          replace q72 : ρ 72 = .pointer (some (aL.add (k * 9))) := q72
          replace q69 : ρ 69 = .bool false := q69
          refine ⟨by simp [Rg.wants, q69], ?_⟩
          have c0_ : W.cell? (aL.add (k * 9)) = some (.int .i64 r.kind) := (hR.cell (p := aL.add (k * 9)) hab6).trans p0
          have c1_ : W.cell? (⟨(aL.add (k * 9)).block, (aL.add (k * 9)).off + 1, none⟩) = some (.int .u64 r.hard.term) := (hR.cell (p := ⟨(aL.add (k * 9)).block, (aL.add (k * 9)).off + 1, none⟩) hab6).trans p1
          have c2_ : W.cell? (⟨(aL.add (k * 9)).block, (aL.add (k * 9)).off + 2, none⟩) = some (.int .i64 r.hard.vote) := (hR.cell (p := ⟨(aL.add (k * 9)).block, (aL.add (k * 9)).off + 2, none⟩) hab6).trans p2
          have c3_ : W.cell? (⟨(aL.add (k * 9)).block, (aL.add (k * 9)).off + 3, none⟩) = some (.int .u64 r.ent.term) := (hR.cell (p := ⟨(aL.add (k * 9)).block, (aL.add (k * 9)).off + 3, none⟩) hab6).trans p3
          have c4_ : W.cell? (⟨(aL.add (k * 9)).block, (aL.add (k * 9)).off + 4, none⟩) = some (.slice A1 r.ent.data.length c1) := (hR.cell (p := ⟨(aL.add (k * 9)).block, (aL.add (k * 9)).off + 4, none⟩) hab6).trans p4
          have c5_ : W.cell? (⟨(aL.add (k * 9)).block, (aL.add (k * 9)).off + 5, none⟩) = some (.int .u64 r.index) := (hR.cell (p := ⟨(aL.add (k * 9)).block, (aL.add (k * 9)).off + 5, none⟩) hab6).trans p5
          have c6_ : W.cell? (⟨(aL.add (k * 9)).block, (aL.add (k * 9)).off + 6, none⟩) = some (.int .u64 r.snap.index) := (hR.cell (p := ⟨(aL.add (k * 9)).block, (aL.add (k * 9)).off + 6, none⟩) hab6).trans p6
          have c7_ : W.cell? (⟨(aL.add (k * 9)).block, (aL.add (k * 9)).off + 7, none⟩) = some (.int .u64 r.snap.term) := (hR.cell (p := ⟨(aL.add (k * 9)).block, (aL.add (k * 9)).off + 7, none⟩) hab6).trans p7
          have c8_ : W.cell? (⟨(aL.add (k * 9)).block, (aL.add (k * 9)).off + 8, none⟩) = some (.slice A2 r.snap.state.length c2) := (hR.cell (p := ⟨(aL.add (k * 9)).block, (aL.add (k * 9)).off + 8, none⟩) hab6).trans p8
          exact Rg.run_ok (v := .agg #[.int .i64 r.kind, .int .u64 r.hard.term, .int .i64 r.hard.vote, .int .u64 r.ent.term, .slice A1 r.ent.data.length c1, .int .u64 r.index, .int .u64 r.snap.index, .int .u64 r.snap.term, .slice A2 r.snap.state.length c2]) (by simp [execOp, Rg.ev, go_sem, q72, c0_, c1_, c2_, c3_, c4_, c5_, c6_, c7_, c8_]) ⟨rfl, hR, Ext.rfl' _⟩
        refine ⟨Rg.at_run [73, 69] rfl ?_, ?_⟩
        · intro ρ W hR ⟨q73, q69, _⟩
          replace q73 : ρ 73 = .agg #[.int .i64 r.kind, .int .u64 r.hard.term, .int .i64 r.hard.vote, .int .u64 r.ent.term, .slice A1 r.ent.data.length c1, .int .u64 r.index, .int .u64 r.snap.index, .int .u64 r.snap.term, .slice A2 r.snap.state.length c2] := q73
          replace q69 : ρ 69 = .bool false := q69
          refine ⟨by simp [Rg.wants, q69], ?_⟩
          refine Rg.run_enter (by simp [execOp, Rg.ev, go_sem, q73]; exact ⟨⟨rfl, rfl⟩, rfl⟩) ?_
          refine (may_b r _ _ W).mono ?_
          rintro e_ w2 ⟨rfl, hxx⟩
          exact ⟨_, rfl, by rw [HMY.out], hR.trans' hxx, hxx⟩
        refine ⟨Rg.at_run [74, 69] rfl ?_, ?_⟩
        · intro ρ W hR ⟨q74, q69, _⟩
          replace q74 : ρ 74 = .bool true := q74
          replace q69 : ρ 69 = .bool false := q69
          refine ⟨by simp [Rg.wants, q69], ?_⟩
          exact Rg.run_ok (v := .bool false) (by simp [execOp, Rg.ev, go_sem, q74]) ⟨rfl, hR, Ext.rfl' _⟩
        refine ⟨Rg.at_run [69, 75] rfl ?_, ?_⟩
        · intro ρ W hR ⟨q69, q75, _⟩
          replace q69 : ρ 69 = .bool false := q69
          replace q75 : ρ 75 = .bool false := q75
          refine ⟨rfl, ?_⟩
          exact Rg.run_ok (v := .bool false) (by simp [execOp, Rg.ev, go_sem, q69, q75]) ⟨rfl, hR, Ext.rfl' _⟩
        trivial
      case en =>
        intro tm W hR hsz hk
        rw [Rg.fin_eq (ds := [39, 40, 41, 42, 43, 44, 45, 46, 47, 48, 49, 50, 51, 52, 53, 54, 55, 56, 57, 58, 59, 60, 61, 62, 63, 64, 65, 66, 67, 68, 69, 70, 71, 72, 73, 74, 75, 76]) rfl rfl rfl hsz hk]
        have k39 : tm.getD 39 undef = .slice Am m.length cm := hk 39
        have k40 : tm.getD 40 undef = .int .i64 m.length := hk 40
        have k41 : tm.getD 41 undef = .slice (some ⟨g + 1 + 1 + 1, 0, none⟩) 4 4 := hk 41
        have k42 : tm.getD 42 undef = .int .i64 k := hk 42
        have k43 : tm.getD 43 undef = .pointer (some ⟨g + 1 + 1 + 1, k, none⟩) := hk 43
        have k44 : tm.getD 44 undef = .int .i64 m.length := hk 44
        have k45 : tm.getD 45 undef = .bool false := hk 45
        have k46 : tm.getD 46 undef = .bool false := hk 46
        have k47 : tm.getD 47 undef = .int .i64 m.length := hk 47
        have k48 : tm.getD 48 undef = .slice Am m.length cm := hk 48
        have k49 : tm.getD 49 undef = .int .i64 m.length := hk 49
        have k50 : tm.getD 50 undef = .bool false := hk 50
        have k51 : tm.getD 51 undef = .bool false := hk 51
        have k52 : tm.getD 52 undef = .bool false := hk 52
        have k53 : tm.getD 53 undef = .slice (some ad5) 1 c5 := hk 53
        have k54 : tm.getD 54 undef = .int .i64 1 := hk 54
        have k55 : tm.getD 55 undef = .bool false := hk 55
        have k56 : tm.getD 56 undef = .bool false := hk 56
        have k57 : tm.getD 57 undef = .bool false := hk 57
        have k58 : tm.getD 58 undef = .slice (some ad5) 1 c5 := hk 58
        have k59 : tm.getD 59 undef = .pointer (some ad5) := hk 59
        have k60 : tm.getD 60 undef = .pointer (some ad5) := hk 60
        have k61 : tm.getD 61 undef = .int .i64 r.kind := hk 61
        have k62 : tm.getD 62 undef = .slice (some aL) 4 4 := hk 62
        have k63 : tm.getD 63 undef = .int .i64 k := hk 63
        have k64 : tm.getD 64 undef = .pointer (some (aL.add (k * 9))) := hk 64
        have k65 : tm.getD 65 undef = .pointer (some (aL.add (k * 9))) := hk 65
        have k66 : tm.getD 66 undef = .int .i64 r.kind := hk 66
        have k67 : tm.getD 67 undef = .bool false := hk 67
        have k68 : tm.getD 68 undef = .bool false := hk 68
        have k69 : tm.getD 69 undef = .bool false := hk 69
        have k70 : tm.getD 70 undef = .slice (some aL) 4 4 := hk 70
        have k71 : tm.getD 71 undef = .int .i64 k := hk 71
        have k72 : tm.getD 72 undef = .pointer (some (aL.add (k * 9))) := hk 72
        have k73 : tm.getD 73 undef = .agg #[.int .i64 r.kind, .int .u64 r.hard.term, .int .i64 r.hard.vote, .int .u64 r.ent.term, .slice A1 r.ent.data.length c1, .int .u64 r.index, .int .u64 r.snap.index, .int .u64 r.snap.term, .slice A2 r.snap.state.length c2] := hk 73
        have k74 : tm.getD 74 undef = .bool true := hk 74
        have k75 : tm.getD 75 undef = .bool false := hk 75
        have k76 : tm.getD 76 undef = .bool false := hk 76
        clear hk hsz
        simp only [Rg.putAll, List.setIfInBounds_toArray, List.set_cons_zero, List.set_cons_succ, k39, k40, k41, k42, k43, k44, k45, k46, k47, k48, k49, k50, k51, k52, k53, k54, k55, k56, k57, k58, k59, k60, k61, k62, k63, k64, k65, k66, k67, k68, k69, k70, k71, k72, k73, k74, k75, k76]
        clear k39
        clear k40
        clear k41
        clear k42
        clear k43
        clear k44
        clear k45
        clear k46
        clear k47
        clear k48
        clear k49
        clear k50
        clear k51
        clear k52
        clear k53
        clear k54
        clear k55
        clear k56
        clear k57
        clear k58
        clear k59
        clear k60
        clear k61
        clear k62
        clear k63
        clear k64
        clear k65
        clear k66
        clear k67
        clear k68
        clear k69
        clear k70
        clear k71
        clear k72
        clear k73
        clear k74
        clear k75
        clear k76
        refine Rg.nil_list ?_
        go_wp2
        go_roundw
        case rel => exact ⟨k + 1, by have := HLT.out; omega, by go_num, (hxr.trans' hx16).trans' hR⟩
        case measure => have := HLT.out; simp [intOf]; omega
    · have hL3 := hL.ext hxr
      have hBL3 := hBL.ext hxr
      have hxw := hxc.trans' hxr
      generalize wr = Wr at *
      obtain ⟨gB, hgB⟩ : ∃ g, Wr.heap.size = g := ⟨_, rfl⟩
      have hwb : ∀ (k : Nat) (r : Rec), B5[k]? = some r → r.wide := fun k r h => (B5_ok h).2.1
      have hB5 : Enc.Sl reE (Wr.alloc (.cells #[.int .i64 0, .int .u64 0, .int .i64 0, .int .u64 0, .slice none 0 0, .int .u64 0, .int .u64 0, .int .u64 0, .slice none 0 0, .int .i64 5, .int .u64 0, .int .i64 0, .int .u64 0, .slice none 0 0, .int .u64 0, .int .u64 0, .int .u64 0, .slice none 0 0, .int .i64 (-1), .int .u64 0, .int .i64 0, .int .u64 0, .slice none 0 0, .int .u64 0, .int .u64 0, .int .u64 0, .slice none 0 0, .int .i64 1, .int .u64 0, .int .i64 8, .int .u64 0, .slice none 0 0, .int .u64 0, .int .u64 0, .int .u64 0, .slice none 0 0, .int .i64 1, .int .u64 0, .int .i64 (-1), .int .u64 0, .slice none 0 0, .int .u64 0, .int .u64 0, .int .u64 0, .slice none 0 0] 57)) noneAt (.slice (some ⟨gB, 0, none⟩) 5 5) B5 :=
        Sl.lits 57 (l := B5) (css := [recells ⟨0, Hd0, En0, 0, Sn0⟩ (.slice none 0 0) (.slice none 0 0), recells ⟨5, Hd0, En0, 0, Sn0⟩ (.slice none 0 0) (.slice none 0 0), recells ⟨-1, Hd0, En0, 0, Sn0⟩ (.slice none 0 0) (.slice none 0 0), recells ⟨1, ⟨0, 8⟩, En0, 0, Sn0⟩ (.slice none 0 0) (.slice none 0 0), recells ⟨1, ⟨0, -1⟩, En0, 0, Sn0⟩ (.slice none 0 0) (.slice none 0 0)])
          ((Enc.Each.single (re_rep.2 ⟨_, _, rfl, hwb 0 _ rfl, Enc.BsX.nil _ _, Enc.BsX.nil _ _⟩)).app ((Enc.Each.single (re_rep.2 ⟨_, _, rfl, hwb 1 _ rfl, Enc.BsX.nil _ _, Enc.BsX.nil _ _⟩)).app ((Enc.Each.single (re_rep.2 ⟨_, _, rfl, hwb 2 _ rfl, Enc.BsX.nil _ _, Enc.BsX.nil _ _⟩)).app
            ((Enc.Each.single (re_rep.2 ⟨_, _, rfl, hwb 3 _ rfl, Enc.BsX.nil _ _, Enc.BsX.nil _ _⟩)).app (Enc.Each.single (re_rep.2 ⟨_, _, rfl, hwb 4 _ rfl, Enc.BsX.nil _ _, Enc.BsX.nil _ _⟩))))))
          gB hgB (fun h => h) (by simp [B5, maxLen])
      have hBB := Blk.new Wr 57 #[.int .i64 0, .int .u64 0, .int .i64 0, .int .u64 0, .slice none 0 0, .int .u64 0, .int .u64 0, .int .u64 0, .slice none 0 0, .int .i64 5, .int .u64 0, .int .i64 0, .int .u64 0, .slice none 0 0, .int .u64 0, .int .u64 0, .int .u64 0, .slice none 0 0, .int .i64 (-1), .int .u64 0, .int .i64 0, .int .u64 0, .slice none 0 0, .int .u64 0, .int .u64 0, .int .u64 0, .slice none 0 0, .int .i64 1, .int .u64 0, .int .i64 8, .int .u64 0, .slice none 0 0, .int .u64 0, .int .u64 0, .int .u64 0, .slice none 0 0, .int .i64 1, .int .u64 0, .int .i64 (-1), .int .u64 0, .slice none 0 0, .int .u64 0, .int .u64 0, .int .u64 0, .slice none 0 0]
      rw [hgB] at hBB
      have hxf : Ext Wr (Wr.alloc (.cells #[.int .i64 0, .int .u64 0, .int .i64 0, .int .u64 0, .slice none 0 0, .int .u64 0, .int .u64 0, .int .u64 0, .slice none 0 0, .int .i64 5, .int .u64 0, .int .i64 0, .int .u64 0, .slice none 0 0, .int .u64 0, .int .u64 0, .int .u64 0, .slice none 0 0, .int .i64 (-1), .int .u64 0, .int .i64 0, .int .u64 0, .slice none 0 0, .int .u64 0, .int .u64 0, .int .u64 0, .slice none 0 0, .int .i64 1, .int .u64 0, .int .i64 8, .int .u64 0, .slice none 0 0, .int .u64 0, .int .u64 0, .int .u64 0, .slice none 0 0, .int .i64 1, .int .u64 0, .int .i64 (-1), .int .u64 0, .slice none 0 0, .int .u64 0, .int .u64 0, .int .u64 0, .slice none 0 0] 57)) := (Ext.rfl' Wr).alloc' _
      go_upto_region 13 with fail
      generalize Wr.alloc (.cells #[.int .i64 0, .int .u64 0, .int .i64 0, .int .u64 0, .slice none 0 0, .int .u64 0, .int .u64 0, .int .u64 0, .slice none 0 0, .int .i64 5, .int .u64 0, .int .i64 0, .int .u64 0, .slice none 0 0, .int .u64 0, .int .u64 0, .int .u64 0, .slice none 0 0, .int .i64 (-1), .int .u64 0, .int .i64 0, .int .u64 0, .slice none 0 0, .int .u64 0, .int .u64 0, .int .u64 0, .slice none 0 0, .int .i64 1, .int .u64 0, .int .i64 8, .int .u64 0, .slice none 0 0, .int .u64 0, .int .u64 0, .int .u64 0, .slice none 0 0, .int .i64 1, .int .u64 0, .int .i64 (-1), .int .u64 0, .slice none 0 0, .int .u64 0, .int .u64 0, .int .u64 0, .slice none 0 0] 57) = We at *
      replace hL3 := hL3.ext hxf
      replace hBL3 := hBL3.ext hxf
      replace hxw := hxw.trans' hxf
      clear hxf hgB
      obtain ⟨aB, haB⟩ : ∃ a : Addr, (⟨gB, 0, none⟩ : Addr) = a := ⟨_, rfl⟩
      have HAB := hide haB
      rw [haB] at hB5
      rw [haB]
      clear haB
      go_wp2_with fail
      go_loopw [8] (fun vi wr => ∃ k : Nat, (k : Int) ≤ 5 ∧ vi = .int .i64 k ∧ Ext We wr) (fun vi _ => (5 - intOf vi).toNat)
      case atStart => exact ⟨0, by omega, rfl, Ext.rfl' _⟩
      case round =>
        obtain ⟨k, hk, rfl, hxr⟩ := hrel
        by_cases hlt : (k : Int) < 5
        · have HLT := hide hlt
          obtain ⟨ad, r, v1, v2, had, hr, hbk, p0, p1, p2, p3, p4, p5, p6, p7, p8, r1, r2, r3⟩ := re_at (hB5.ext hxr) (k := k) (by simp [B5]; omega)
          obtain rfl := Option.some.inj had
          clear had
          obtain ⟨hmy, -, hsm⟩ := B5_ok hr.out
          obtain ⟨A1, c1, rfl, -, -, -⟩ := id r2.1
          obtain ⟨A2, c2, rfl, -, -, -⟩ := id r3.1
          have HRO : Hid (∀ q ∈ [r], q.wide ∧ q.small) := fun q hq => by rw [List.mem_singleton.1 hq]; exact ⟨r1, hsm⟩
          have HMY := hide hmy
          have hab : (aB.add (k * 9)).block < wr.heap.size := by rw [block_of_add]; exact hbk
          clear hmy
          go_wp2_with fail
          refine (may_b r _ _ wr).mono ?_
          rintro e W5 ⟨rfl, hx5⟩
          rw [HMY.out]
          replace p0 := (hx5.cell (p := aB.add (k * 9)) hab).trans p0
          replace p1 := (hx5.cell (p := ⟨(aB.add (k * 9)).block, (aB.add (k * 9)).off + 1, none⟩) hab).trans p1
          replace p2 := (hx5.cell (p := ⟨(aB.add (k * 9)).block, (aB.add (k * 9)).off + 2, none⟩) hab).trans p2
          replace p3 := (hx5.cell (p := ⟨(aB.add (k * 9)).block, (aB.add (k * 9)).off + 3, none⟩) hab).trans p3
          replace p4 := (hx5.cell (p := ⟨(aB.add (k * 9)).block, (aB.add (k * 9)).off + 4, none⟩) hab).trans p4
          replace p5 := (hx5.cell (p := ⟨(aB.add (k * 9)).block, (aB.add (k * 9)).off + 5, none⟩) hab).trans p5
          replace p6 := (hx5.cell (p := ⟨(aB.add (k * 9)).block, (aB.add (k * 9)).off + 6, none⟩) hab).trans p6
          replace p7 := (hx5.cell (p := ⟨(aB.add (k * 9)).block, (aB.add (k * 9)).off + 7, none⟩) hab).trans p7
          replace p8 := (hx5.cell (p := ⟨(aB.add (k * 9)).block, (aB.add (k * 9)).off + 8, none⟩) hab).trans p8
          have hlit := Sl.one 57 (E := reE) (w := W5) (X := noneAt) (cs := recells r (.slice A1 r.ent.data.length c1) (.slice A2 r.snap.state.length c2)) (a := r) (re_rep.2 ⟨_, _, rfl, r1, r2.ext hx5, r3.ext hx5⟩) W5.heap.size rfl (fun h => h)
          have hxa : Ext W5 (W5.alloc (.cells (recells r (.slice A1 r.ent.data.length c1) (.slice A2 r.snap.state.length c2)).toArray 57)) := (Ext.rfl' W5).alloc' _
          go_wp2_with fail
          refine (lputs_b _ [r] _ (by simp) hlit HRO.out).mono ?_
          rintro e W6 ⟨m, Am, cm, hm, rfl, hap, hx6⟩
          obtain rfl : m = [] := by rw [hm.out]; simp [lput, HMY.out]
          clear hlit
          go_wp2
          go_roundw
          case rel => exact ⟨k + 1, by have := HLT.out; omega, by go_num, hxr.trans' (hx5.trans' (hxa.trans' hx6))⟩
          case measure => have := HLT.out; simp [intOf]; omega
        · have hL6 := hL3.ext hxr
          have hBL6 := hBL3.ext hxr
          have hBB6 := hBB.ext hxr
          have hxz := hxw.trans' hxr
          have haL := HAL.out
          have haB := HAB.out
          subst haL haB
          generalize wr = W6 at *
          have HW4 : Hid (∀ r ∈ L4, r.wide ∧ r.small) := by
            intro r hr
            obtain ⟨k, hk⟩ := List.mem_iff_getElem?.1 hr
            exact ⟨(L4_ok hk).2.1, (L4_ok hk).2.2.1⟩
          have HW3 : Hid (∀ r ∈ L3, r.wide ∧ r.small) := by
            intro r hr
            simp only [L3, List.mem_cons, List.not_mem_nil, or_false] at hr
            rcases hr with rfl | rfl | rfl
            · exact ⟨(L4_ok (k := 0) rfl).2.1, (L4_ok (k := 0) rfl).2.2.1⟩
            · exact ⟨(B5_ok (k := 0) rfl).2.1, (B5_ok (k := 0) rfl).2.2⟩
            · exact ⟨(L4_ok (k := 2) rfl).2.1, (L4_ok (k := 2) rfl).2.2.1⟩
          go_upto_region 18 with fail
          refine Rg.regionT Try.checked.mixed 125 20 (by kernel_rfl) [
            (fun x_ _ => x_ = .slice (some ⟨g + 1 + 1, 0, none⟩) 4 4),
            (fun v W => ∃ A9 c9, v = .slice A9 79 c9),
            (fun x_ _ => x_ = .int .i64 79),
            (fun x_ _ => x_ = .bool true),
            (fun x_ _ => x_ = .bool true),
            (fun x_ _ => x_ = .slice (some ⟨g + 1 + 1, 0, none⟩) 4 4),
            (fun x_ _ => x_ = .pointer (some ⟨g + 1 + 1, 0, none⟩)),
            (fun x_ _ => x_ = .agg #[.int .i64 1, .int .u64 1, .int .i64 7, .int .u64 0, .slice none 0 0, .int .u64 0, .int .u64 0, .int .u64 0, .slice none 0 0]),
            (fun x_ _ => x_ = .slice (some ⟨gB, 0, none⟩) 5 5),
            (fun x_ _ => x_ = .pointer (some ⟨gB, 0, none⟩)),
            (fun x_ _ => x_ = .agg #[.int .i64 0, .int .u64 0, .int .i64 0, .int .u64 0, .slice none 0 0, .int .u64 0, .int .u64 0, .int .u64 0, .slice none 0 0]),
            (fun x_ _ => x_ = .slice (some ⟨g + 1 + 1, 0, none⟩) 4 4),
            (fun x_ _ => x_ = .pointer (some ⟨g + 1 + 1, 18, none⟩)),
            (fun x_ _ => x_ = .agg #[.int .i64 3, .int .u64 0, .int .i64 0, .int .u64 0, .slice none 0 0, .int .u64 3, .int .u64 0, .int .u64 0, .slice none 0 0]),
            (fun v W => Enc.Sl reE W noneAt v L3),
            (fun v W => ∃ A9 c9, v = .slice A9 35 c9),
            (fun x_ _ => x_ = .int .i64 35),
            (fun x_ _ => x_ = .bool true),
            (fun x_ _ => x_ = .bool true),
            (fun x_ _ => x_ = .bool true)] (fun W => Ext W6 W) Ext rfl rfl rfl
            ?st ((Ext.rfl' W6).drew') ?ob ?en
          case st => exact ⟨fun _ _ _ h _ => h, fun _ _ _ h _ => h, fun _ _ _ h _ => h, fun _ _ _ h _ => h, fun _ _ _ h _ => h, fun _ _ _ h _ => h, fun _ _ _ h _ => h, fun _ _ _ h _ => h, fun _ _ _ h _ => h, fun _ _ _ h _ => h, fun _ _ _ h _ => h, fun _ _ _ h _ => h, fun _ _ _ h _ => h, fun _ _ _ h _ => h, fun _ _ _ h hx => h.ext hx, fun _ _ _ h _ => h, fun _ _ _ h _ => h, fun _ _ _ h _ => h, fun _ _ _ h _ => h, fun _ _ _ h _ => h, trivial⟩
          case ob =>
            refine ⟨Rg.at_run [1] rfl ?_, ?_⟩
            · intro ρ W hR ⟨q1, _⟩
              replace q1 : ρ 1 = .slice (some ⟨g + 1 + 1, 0, none⟩) 4 4 := q1
              refine ⟨rfl, ?_⟩
              exact Rg.run_ok (v := .slice (some ⟨g + 1 + 1, 0, none⟩) 4 4) (by simp [execOp, Rg.ev, go_sem, q1]) ⟨rfl, hR, Ext.rfl' _⟩
            refine ⟨Rg.at_run [106] rfl ?_, ?_⟩
            · intro ρ W hR ⟨q106, _⟩
              replace q106 : ρ 106 = .slice (some ⟨g + 1 + 1, 0, none⟩) 4 4 := q106
              refine ⟨rfl, ?_⟩
              refine Rg.run_enter (by simp [execOp, Rg.ev, go_sem, q106]; exact ⟨⟨rfl, rfl⟩, rfl⟩) ?_
              refine (lputs_b _ L4 W (by simp [L4]) (hL6.ext hR) HW4.out).mono ?_
              rintro e w2 ⟨m9, A9, c9, hm9, rfl, hz, hxx⟩
              have hl9 : m9.length = 79 := by rw [hm9.out]; exact L4_len
              rw [hl9]
              exact ⟨_, rfl, ⟨A9, c9, rfl⟩, hR.trans' hxx, hxx⟩
            refine ⟨Rg.at_run [107] rfl ?_, ?_⟩
            · intro ρ W hR ⟨q107, _⟩
              replace q107 : (fun v W => ∃ A9 c9, v = .slice A9 79 c9) (ρ 107) W := q107
              refine ⟨rfl, ?_⟩
              obtain ⟨A9, c9, e9⟩ := q107
              exact Rg.run_ok (v := .int .i64 79) (by simp [execOp, Rg.ev, go_sem, e9]) ⟨rfl, hR, Ext.rfl' _⟩
            refine ⟨Rg.at_run [108] rfl ?_, ?_⟩
            · intro ρ W hR ⟨q108, _⟩
              replace q108 : ρ 108 = .int .i64 79 := q108
              refine ⟨rfl, ?_⟩
              exact Rg.run_ok (v := .bool true) (by simp [execOp, Rg.ev, go_sem, q108]) ⟨rfl, hR, Ext.rfl' _⟩
            refine ⟨Rg.at_run [109] rfl ?_, ?_⟩
            · intro ρ W hR ⟨q109, _⟩
              replace q109 : ρ 109 = .bool true := q109
              refine ⟨rfl, ?_⟩
              exact Rg.run_ok (v := .bool true) (by simp [execOp, Rg.ev, go_sem, q109]) ⟨rfl, hR, Ext.rfl' _⟩
            refine ⟨Rg.at_run [1, 110] rfl ?_, ?_⟩
            · intro ρ W hR ⟨q1, q110, _⟩
              replace q1 : ρ 1 = .slice (some ⟨g + 1 + 1, 0, none⟩) 4 4 := q1
              replace q110 : ρ 110 = .bool true := q110
              refine ⟨by simp [Rg.wants, q110], ?_⟩
              exact Rg.run_ok (v := .slice (some ⟨g + 1 + 1, 0, none⟩) 4 4) (by simp [execOp, Rg.ev, go_sem, q1]) ⟨rfl, hR, Ext.rfl' _⟩
            refine ⟨Rg.at_run [111, 110] rfl ?_, ?_⟩
            · intro ρ W hR ⟨q111, q110, _⟩
              replace q111 : ρ 111 = .slice (some ⟨g + 1 + 1, 0, none⟩) 4 4 := q111
              replace q110 : ρ 110 = .bool true := q110
              refine ⟨by simp [Rg.wants, q110], ?_⟩
              exact Rg.run_ok (v := .pointer (some ⟨g + 1 + 1, 0, none⟩)) (by simp [execOp, Rg.ev, go_sem, q111]) ⟨rfl, hR, Ext.rfl' _⟩
            refine ⟨Rg.at_run [112, 110] rfl ?_, ?_⟩
            · intro ρ W hR ⟨q112, q110, _⟩
              replace q112 : ρ 112 = .pointer (some ⟨g + 1 + 1, 0, none⟩) := q112
              replace q110 : ρ 110 = .bool true := q110
              refine ⟨by simp [Rg.wants, q110], ?_⟩
              have c0_ : W.cell? ⟨g + 1 + 1, 0, none⟩ = some (.int .i64 1) := ((hBL6.ext hR).cell 0).trans rfl
              have c1_ : W.cell? ⟨g + 1 + 1, 1, none⟩ = some (.int .u64 1) := ((hBL6.ext hR).cell 1).trans rfl
              have c2_ : W.cell? ⟨g + 1 + 1, 2, none⟩ = some (.int .i64 7) := ((hBL6.ext hR).cell 2).trans rfl
              have c3_ : W.cell? ⟨g + 1 + 1, 3, none⟩ = some (.int .u64 0) := ((hBL6.ext hR).cell 3).trans rfl
              have c4_ : W.cell? ⟨g + 1 + 1, 4, none⟩ = some (.slice none 0 0) := ((hBL6.ext hR).cell 4).trans rfl
              have c5_ : W.cell? ⟨g + 1 + 1, 5, none⟩ = some (.int .u64 0) := ((hBL6.ext hR).cell 5).trans rfl
              have c6_ : W.cell? ⟨g + 1 + 1, 6, none⟩ = some (.int .u64 0) := ((hBL6.ext hR).cell 6).trans rfl
              have c7_ : W.cell? ⟨g + 1 + 1, 7, none⟩ = some (.int .u64 0) := ((hBL6.ext hR).cell 7).trans rfl
              have c8_ : W.cell? ⟨g + 1 + 1, 8, none⟩ = some (.slice none 0 0) := ((hBL6.ext hR).cell 8).trans rfl
              exact Rg.run_ok (v := .agg #[.int .i64 1, .int .u64 1, .int .i64 7, .int .u64 0, .slice none 0 0, .int .u64 0, .int .u64 0, .int .u64 0, .slice none 0 0]) (by simp [execOp, Rg.ev, go_sem, q112, c0_, c1_, c2_, c3_, c4_, c5_, c6_, c7_, c8_]) ⟨rfl, hR, Ext.rfl' _⟩
            refine ⟨Rg.at_run [7, 110] rfl ?_, ?_⟩
            · intro ρ W hR ⟨q7, q110, _⟩
              replace q7 : ρ 7 = .slice (some ⟨gB, 0, none⟩) 5 5 := q7
              replace q110 : ρ 110 = .bool true := q110
              refine ⟨by simp [Rg.wants, q110], ?_⟩
              exact Rg.run_ok (v := .slice (some ⟨gB, 0, none⟩) 5 5) (by simp [execOp, Rg.ev, go_sem, q7]) ⟨rfl, hR, Ext.rfl' _⟩
            refine ⟨Rg.at_run [114, 110] rfl ?_, ?_⟩
            · intro ρ W hR ⟨q114, q110, _⟩
              replace q114 : ρ 114 = .slice (some ⟨gB, 0, none⟩) 5 5 := q114
              replace q110 : ρ 110 = .bool true := q110
              refine ⟨by simp [Rg.wants, q110], ?_⟩
              exact Rg.run_ok (v := .pointer (some ⟨gB, 0, none⟩)) (by simp [execOp, Rg.ev, go_sem, q114]) ⟨rfl, hR, Ext.rfl' _⟩
            refine ⟨Rg.at_run [115, 110] rfl ?_, ?_⟩
            · intro ρ W hR ⟨q115, q110, _⟩
              replace q115 : ρ 115 = .pointer (some ⟨gB, 0, none⟩) := q115
              replace q110 : ρ 110 = .bool true := q110
              refine ⟨by simp [Rg.wants, q110], ?_⟩
              have c0_ : W.cell? ⟨gB, 0, none⟩ = some (.int .i64 0) := ((hBB6.ext hR).cell 0).trans rfl
              have c1_ : W.cell? ⟨gB, 1, none⟩ = some (.int .u64 0) := ((hBB6.ext hR).cell 1).trans rfl
              have c2_ : W.cell? ⟨gB, 2, none⟩ = some (.int .i64 0) := ((hBB6.ext hR).cell 2).trans rfl
              have c3_ : W.cell? ⟨gB, 3, none⟩ = some (.int .u64 0) := ((hBB6.ext hR).cell 3).trans rfl
              have c4_ : W.cell? ⟨gB, 4, none⟩ = some (.slice none 0 0) := ((hBB6.ext hR).cell 4).trans rfl
              have c5_ : W.cell? ⟨gB, 5, none⟩ = some (.int .u64 0) := ((hBB6.ext hR).cell 5).trans rfl
              have c6_ : W.cell? ⟨gB, 6, none⟩ = some (.int .u64 0) := ((hBB6.ext hR).cell 6).trans rfl
              have c7_ : W.cell? ⟨gB, 7, none⟩ = some (.int .u64 0) := ((hBB6.ext hR).cell 7).trans rfl
              have c8_ : W.cell? ⟨gB, 8, none⟩ = some (.slice none 0 0) := ((hBB6.ext hR).cell 8).trans rfl
              exact Rg.run_ok (v := .agg #[.int .i64 0, .int .u64 0, .int .i64 0, .int .u64 0, .slice none 0 0, .int .u64 0, .int .u64 0, .int .u64 0, .slice none 0 0]) (by simp [execOp, Rg.ev, go_sem, q115, c0_, c1_, c2_, c3_, c4_, c5_, c6_, c7_, c8_]) ⟨rfl, hR, Ext.rfl' _⟩
            refine ⟨Rg.at_run [1, 110] rfl ?_, ?_⟩
            · intro ρ W hR ⟨q1, q110, _⟩
              replace q1 : ρ 1 = .slice (some ⟨g + 1 + 1, 0, none⟩) 4 4 := q1
              replace q110 : ρ 110 = .bool true := q110
              refine ⟨by simp [Rg.wants, q110], ?_⟩
              exact Rg.run_ok (v := .slice (some ⟨g + 1 + 1, 0, none⟩) 4 4) (by simp [execOp, Rg.ev, go_sem, q1]) ⟨rfl, hR, Ext.rfl' _⟩
            refine ⟨Rg.at_run [117, 110] rfl ?_, ?_⟩
            · intro ρ W hR ⟨q117, q110, _⟩
              replace q117 : ρ 117 = .slice (some ⟨g + 1 + 1, 0, none⟩) 4 4 := q117
              replace q110 : ρ 110 = .bool true := q110
              refine ⟨by simp [Rg.wants, q110], ?_⟩
              exact Rg.run_ok (v := .pointer (some ⟨g + 1 + 1, 18, none⟩)) (by simp [execOp, Rg.ev, go_sem, q117]) ⟨rfl, hR, Ext.rfl' _⟩
            refine ⟨Rg.at_run [118, 110] rfl ?_, ?_⟩
            · intro ρ W hR ⟨q118, q110, _⟩
              replace q118 : ρ 118 = .pointer (some ⟨g + 1 + 1, 18, none⟩) := q118
              replace q110 : ρ 110 = .bool true := q110
              refine ⟨by simp [Rg.wants, q110], ?_⟩
              have c18_ : W.cell? ⟨g + 1 + 1, 18, none⟩ = some (.int .i64 3) := ((hBL6.ext hR).cell 18).trans rfl
              have c19_ : W.cell? ⟨g + 1 + 1, 19, none⟩ = some (.int .u64 0) := ((hBL6.ext hR).cell 19).trans rfl
              have c20_ : W.cell? ⟨g + 1 + 1, 20, none⟩ = some (.int .i64 0) := ((hBL6.ext hR).cell 20).trans rfl
              have c21_ : W.cell? ⟨g + 1 + 1, 21, none⟩ = some (.int .u64 0) := ((hBL6.ext hR).cell 21).trans rfl
              have c22_ : W.cell? ⟨g + 1 + 1, 22, none⟩ = some (.slice none 0 0) := ((hBL6.ext hR).cell 22).trans rfl
              have c23_ : W.cell? ⟨g + 1 + 1, 23, none⟩ = some (.int .u64 3) := ((hBL6.ext hR).cell 23).trans rfl
              have c24_ : W.cell? ⟨g + 1 + 1, 24, none⟩ = some (.int .u64 0) := ((hBL6.ext hR).cell 24).trans rfl
              have c25_ : W.cell? ⟨g + 1 + 1, 25, none⟩ = some (.int .u64 0) := ((hBL6.ext hR).cell 25).trans rfl
              have c26_ : W.cell? ⟨g + 1 + 1, 26, none⟩ = some (.slice none 0 0) := ((hBL6.ext hR).cell 26).trans rfl
              exact Rg.run_ok (v := .agg #[.int .i64 3, .int .u64 0, .int .i64 0, .int .u64 0, .slice none 0 0, .int .u64 3, .int .u64 0, .int .u64 0, .slice none 0 0]) (by simp [execOp, Rg.ev, go_sem, q118, c18_, c19_, c20_, c21_, c22_, c23_, c24_, c25_, c26_]) ⟨rfl, hR, Ext.rfl' _⟩
            refine ⟨Rg.at_run [113, 116, 119, 110] rfl ?_, ?_⟩
            · intro ρ W hR ⟨q113, q116, q119, q110, _⟩
              replace q113 : ρ 113 = .agg #[.int .i64 1, .int .u64 1, .int .i64 7, .int .u64 0, .slice none 0 0, .int .u64 0, .int .u64 0, .int .u64 0, .slice none 0 0] := q113
              replace q116 : ρ 116 = .agg #[.int .i64 0, .int .u64 0, .int .i64 0, .int .u64 0, .slice none 0 0, .int .u64 0, .int .u64 0, .int .u64 0, .slice none 0 0] := q116
              replace q119 : ρ 119 = .agg #[.int .i64 3, .int .u64 0, .int .i64 0, .int .u64 0, .slice none 0 0, .int .u64 3, .int .u64 0, .int .u64 0, .slice none 0 0] := q119
              replace q110 : ρ 110 = .bool true := q110
              refine ⟨by simp [Rg.wants, q110], ?_⟩
              refine Rg.run_ok (v := .slice (some ⟨W.heap.size, 0, none⟩) 3 3) (W' := W.alloc (.cells #[.int .i64 1, .int .u64 1, .int .i64 7, .int .u64 0, .slice none 0 0, .int .u64 0, .int .u64 0, .int .u64 0, .slice none 0 0, .int .i64 0, .int .u64 0, .int .i64 0, .int .u64 0, .slice none 0 0, .int .u64 0, .int .u64 0, .int .u64 0, .slice none 0 0, .int .i64 3, .int .u64 0, .int .i64 0, .int .u64 0, .slice none 0 0, .int .u64 3, .int .u64 0, .int .u64 0, .slice none 0 0] 57)) (by simp [execOp, Rg.ev, go_sem, q113, q116, q119]) ⟨?_, hR.alloc' _, (Ext.rfl' _).alloc' _⟩
              exact Sl.lits 57 (l := L3) (css := [recells ⟨1, ⟨1, 7⟩, En0, 0, Sn0⟩ (.slice none 0 0) (.slice none 0 0), recells ⟨0, Hd0, En0, 0, Sn0⟩ (.slice none 0 0) (.slice none 0 0), recells ⟨3, Hd0, En0, 3, Sn0⟩ (.slice none 0 0) (.slice none 0 0)]) ((Enc.Each.single (re_rep.2 ⟨_, _, rfl, (HW3.out _ (by simp [L3])).1, Enc.BsX.nil _ _, Enc.BsX.nil _ _⟩)).app ((Enc.Each.single (re_rep.2 ⟨_, _, rfl, (HW3.out _ (by simp [L3])).1, Enc.BsX.nil _ _, Enc.BsX.nil _ _⟩)).app (Enc.Each.single (re_rep.2 ⟨_, _, rfl, (HW3.out _ (by simp [L3])).1, Enc.BsX.nil _ _, Enc.BsX.nil _ _⟩)))) W.heap.size rfl (fun h => h) (by simp [L3, maxLen])
            refine ⟨Rg.at_run [120, 110] rfl ?_, ?_⟩
            · intro ρ W hR ⟨q120, q110, _⟩
              replace q120 : (fun v W => Enc.Sl reE W noneAt v L3) (ρ 120) W := q120
              replace q110 : ρ 110 = .bool true := q110
              refine ⟨by simp [Rg.wants, q110], ?_⟩
              refine Rg.run_enter (by simp [execOp, Rg.ev, go_sem]; exact ⟨⟨rfl, rfl⟩, rfl⟩) ?_
              refine (lputs_b _ L3 W (by simp [L3]) q120 HW3.out).mono ?_
              rintro e w2 ⟨m9, A9, c9, hm9, rfl, hz, hxx⟩
              have hl9 : m9.length = 35 := by rw [hm9.out]; exact L3_len
              rw [hl9]
              exact ⟨_, rfl, ⟨A9, c9, rfl⟩, hR.trans' hxx, hxx⟩
            refine ⟨Rg.at_run [121, 110] rfl ?_, ?_⟩
            · intro ρ W hR ⟨q121, q110, _⟩
              replace q121 : (fun v W => ∃ A9 c9, v = .slice A9 35 c9) (ρ 121) W := q121
              replace q110 : ρ 110 = .bool true := q110
              refine ⟨by simp [Rg.wants, q110], ?_⟩
              obtain ⟨A9, c9, e9⟩ := q121
              exact Rg.run_ok (v := .int .i64 35) (by simp [execOp, Rg.ev, go_sem, e9]) ⟨rfl, hR, Ext.rfl' _⟩
            refine ⟨Rg.at_run [122, 110] rfl ?_, ?_⟩
            · intro ρ W hR ⟨q122, q110, _⟩
              replace q122 : ρ 122 = .int .i64 35 := q122
              replace q110 : ρ 110 = .bool true := q110
              refine ⟨by simp [Rg.wants, q110], ?_⟩
              exact Rg.run_ok (v := .bool true) (by simp [execOp, Rg.ev, go_sem, q122]) ⟨rfl, hR, Ext.rfl' _⟩
            refine ⟨Rg.at_run [110, 123] rfl ?_, ?_⟩
            · intro ρ W hR ⟨q110, q123, _⟩
              replace q110 : ρ 110 = .bool true := q110
              replace q123 : ρ 123 = .bool true := q123
              refine ⟨rfl, ?_⟩
              exact Rg.run_ok (v := .bool true) (by simp [execOp, Rg.ev, go_sem, q110, q123]) ⟨rfl, hR, Ext.rfl' _⟩
            refine ⟨Rg.at_run [124] rfl ?_, ?_⟩
            · intro ρ W hR ⟨q124, _⟩
              replace q124 : ρ 124 = .bool true := q124
              refine ⟨rfl, ?_⟩
              exact Rg.run_ok (v := .bool true) (by simp [execOp, Rg.ev, go_sem, q124]) ⟨rfl, hR, Ext.rfl' _⟩
            trivial
          case en =>
            intro tm W hR hsz hk
            rw [Rg.fin_eq (ds := [106, 107, 108, 109, 110, 111, 112, 113, 114, 115, 116, 117, 118, 119, 120, 121, 122, 123, 124, 0]) rfl rfl rfl hsz hk]
            have k0 : tm.getD 0 undef = .bool true := hk 0
            have k106 : tm.getD 106 undef = .slice (some ⟨g + 1 + 1, 0, none⟩) 4 4 := hk 106
            have k107 : (fun v W => ∃ A9 c9, v = .slice A9 79 c9) (tm.getD 107 undef) W := hk 107
            have k108 : tm.getD 108 undef = .int .i64 79 := hk 108
            have k109 : tm.getD 109 undef = .bool true := hk 109
            have k110 : tm.getD 110 undef = .bool true := hk 110
            have k111 : tm.getD 111 undef = .slice (some ⟨g + 1 + 1, 0, none⟩) 4 4 := hk 111
            have k112 : tm.getD 112 undef = .pointer (some ⟨g + 1 + 1, 0, none⟩) := hk 112
            have k113 : tm.getD 113 undef = .agg #[.int .i64 1, .int .u64 1, .int .i64 7, .int .u64 0, .slice none 0 0, .int .u64 0, .int .u64 0, .int .u64 0, .slice none 0 0] := hk 113
            have k114 : tm.getD 114 undef = .slice (some ⟨gB, 0, none⟩) 5 5 := hk 114
            have k115 : tm.getD 115 undef = .pointer (some ⟨gB, 0, none⟩) := hk 115
            have k116 : tm.getD 116 undef = .agg #[.int .i64 0, .int .u64 0, .int .i64 0, .int .u64 0, .slice none 0 0, .int .u64 0, .int .u64 0, .int .u64 0, .slice none 0 0] := hk 116
            have k117 : tm.getD 117 undef = .slice (some ⟨g + 1 + 1, 0, none⟩) 4 4 := hk 117
            have k118 : tm.getD 118 undef = .pointer (some ⟨g + 1 + 1, 18, none⟩) := hk 118
            have k119 : tm.getD 119 undef = .agg #[.int .i64 3, .int .u64 0, .int .i64 0, .int .u64 0, .slice none 0 0, .int .u64 3, .int .u64 0, .int .u64 0, .slice none 0 0] := hk 119
            have k120 : (fun v W => Enc.Sl reE W noneAt v L3) (tm.getD 120 undef) W := hk 120
            have k121 : (fun v W => ∃ A9 c9, v = .slice A9 35 c9) (tm.getD 121 undef) W := hk 121
            have k122 : tm.getD 122 undef = .int .i64 35 := hk 122
            have k123 : tm.getD 123 undef = .bool true := hk 123
            have k124 : tm.getD 124 undef = .bool true := hk 124
            clear hk hsz
            simp only [Rg.putAll, List.setIfInBounds_toArray, List.set_cons_zero, List.set_cons_succ, k0, k106, k108, k109, k110, k111, k112, k113, k114, k115, k116, k117, k118, k119, k122, k123, k124]
            clear k0
            clear k106
            generalize tm.getD 107 undef = u107 at *
            clear k108
            clear k109
            clear k110
            clear k111
            clear k112
            clear k113
            clear k114
            clear k115
            clear k116
            clear k117
            clear k118
            clear k119
            generalize tm.getD 120 undef = u120 at *
            generalize tm.getD 121 undef = u121 at *
            clear k122
            clear k123
            clear k124
            refine Rg.nil_list ?_
            go_wp2
            go_ret
            exact ⟨rfl, hxz.trans' hR⟩
end Go.Proofs.Ytlhokicnedkieaa
