/- log.Put: records' bytes. -/
import Derived.Test.YtlhokicnedkieaaLog2
namespace Go.Proofs.Ytlhokicnedkieaa
set_option linter.unusedVariables false
set_option linter.unusedSimpArgs false
set_option linter.unnecessarySimpa false
set_option maxRecDepth 100000
open Go.RowKit
def RetApp (w w' : World) (e : Ending) (l : Bytes) : Prop := ∃ (m : Bytes) (A : Option Addr) (c : Nat), Hid (m = l) ∧ e = .returned (.slice A m.length c) ∧ App w w' (.slice A m.length c) m ∧ Ext w w'
theorem re_at {w : World} {X : Avoid} {A : Option Addr} {n c k : Nat} {l : List Rec} (h : Enc.Sl reE w X (.slice A n c) l) (hk : k < l.length) : ∃ (ad : Addr) (r : Rec) (v1 v2 : Value), A = some ad ∧ Hid (l[k]? = some r) ∧ ad.block < w.heap.size ∧
    w.cell? (ad.add (k * 9)) = some (.int .i64 r.kind) ∧ w.cell? ⟨(ad.add (k * 9)).block, (ad.add (k * 9)).off + 1, none⟩ = some (.int .u64 r.hard.term) ∧ w.cell? ⟨(ad.add (k * 9)).block, (ad.add (k * 9)).off + 2, none⟩ = some (.int .i64 r.hard.vote) ∧
    w.cell? ⟨(ad.add (k * 9)).block, (ad.add (k * 9)).off + 3, none⟩ = some (.int .u64 r.ent.term) ∧ w.cell? ⟨(ad.add (k * 9)).block, (ad.add (k * 9)).off + 4, none⟩ = some v1 ∧ w.cell? ⟨(ad.add (k * 9)).block, (ad.add (k * 9)).off + 5, none⟩ = some (.int .u64 r.index) ∧
    w.cell? ⟨(ad.add (k * 9)).block, (ad.add (k * 9)).off + 6, none⟩ = some (.int .u64 r.snap.index) ∧ w.cell? ⟨(ad.add (k * 9)).block, (ad.add (k * 9)).off + 7, none⟩ = some (.int .u64 r.snap.term) ∧ w.cell? ⟨(ad.add (k * 9)).block, (ad.add (k * 9)).off + 8, none⟩ = some v2 ∧
    r.wide ∧ Enc.BsX w X v1 r.ent.data ∧ Enc.BsX w X v2 r.snap.state := by
  obtain ⟨ad, cs, rfl, hrep, hb, hcell⟩ := h.at_ hk
  obtain ⟨v1, v2, rfl, r1, r2, r3⟩ := re_rep.1 hrep
  exact ⟨ad, _, v1, v2, rfl, hide (List.getElem?_eq_getElem hk), hb, Enc.cell0 hcell rfl, Enc.cellS hcell 0 rfl, Enc.cellS hcell 1 rfl, Enc.cellS hcell 2 rfl, Enc.cellS hcell 3 rfl, Enc.cellS hcell 4 rfl, Enc.cellS hcell 5 rfl, Enc.cellS hcell 6 rfl, Enc.cellS hcell 7 rfl, r1, r2, r3⟩
theorem take_snoc {α : Type} {l : List α} {k : Nat} {d : α} (hd : l[k]? = some d) : l.take (k + 1) = l.take k ++ [d] := by
  rw [List.take_add_one, hd]
  rfl
theorem lput_take {l : List Rec} {k : Nat} {r : Rec} (h : l[k]? = some r) : lput (l.take (k + 1)) = lput (l.take k) ++ (if may r = true then oframe (one r) else []) := by
  rw [take_snoc h, lput_app]
  simp [lput]
theorem small_take {l : List Rec} (h : ∀ r ∈ l, r.wide ∧ r.small) (k : Nat) : (lput (l.take k)).length ≤ 85 * k :=
  Nat.le_trans (lput_len (l := l.take k) fun r hr => (h r (List.mem_of_mem_take hr)).2) (Nat.mul_le_mul_left _ (by rw [List.length_take]; omega))
set_option maxHeartbeats 3200000 in
theorem lputs_b (x : Value) (l : List Rec) (w : World) (hl : l.length ≤ 1000) (hx : Enc.Sl reE w noneAt x l) (hs : ∀ r ∈ l, r.wide ∧ r.small) :
    Calls Try.prog 33 #[x] w fun e w' => RetApp w w' e (lput l) := by
  obtain ⟨A, c, rfl, -, -⟩ := hx.form
  go_enter Try.func33, Try.ntmps33
  go_wp2_with fail
  go_loopw [3, 8] (fun vo vi wr => ∃ (k : Nat) (m : Bytes) (B : Option Addr) (cc : Nat), (k : Int) ≤ l.length ∧ vo = .slice B m.length cc ∧ vi = .int .i64 k ∧ Hid (m = lput (l.take k)) ∧ App w wr (.slice B m.length cc) m ∧ Ext w wr) (fun _ vi _ => (l.length - intOf vi).toNat)
  case atStart => exact ⟨0, [], none, 0, by omega, rfl, rfl, hide (by simp [lput]), (App0.nil _ _).app, Ext.rfl' _⟩
  case round =>
    obtain ⟨k, m, B, cc, hk, rfl, rfl, hm, hap, hxr⟩ := hrel
    by_cases hlt : (k : Int) < l.length
    · have HLT := hide hlt
      have hml : m.length ≤ 85 * k := by rw [hm.out]; exact small_take hs k
      obtain ⟨ad, r, v1, v2, rfl, hr, hb, p0, p1, p2, p3, p4, p5, p6, p7, p8, r1, r2, r3⟩ := re_at (hx.ext hxr) (k := k) (by omega)
      have hsm := (hs r (List.mem_of_getElem? hr.out)).2
      have ho := one_len hsm
      obtain ⟨hs1, hs2⟩ := hsm
      obtain ⟨A1, c1, rfl, -, -, -⟩ := id r2.1
      obtain ⟨A2, c2, rfl, -, -, -⟩ := id r3.1
      have HM := hide (fun W => may_b r (.slice A1 r.ent.data.length c1) (.slice A2 r.snap.state.length c2) W)
      have hB := Blk.new wr 57 (recells r (.slice A1 r.ent.data.length c1) (.slice A2 r.snap.state.length c2)).toArray
      have hxa := (Ext.rfl' wr).alloc' (.cells (recells r (.slice A1 r.ent.data.length c1) (.slice A2 r.snap.state.length c2)).toArray 57)
      obtain ⟨g, hg⟩ : ∃ g, wr.heap.size = g := ⟨_, rfl⟩
      rw [hg] at hB
      have HW := hide (hs r (List.mem_of_getElem? hr.out)).1
      have HT := hide (lput_take hr.out)
      go_wp2_with fail
      refine (HM.out _).mono ?_
      rintro e W1 ⟨rfl, hx1⟩
      replace hB := hB.ext hx1
      have hx2 := hxa.trans' hx1
      cases hmr : may r with
      | false =>
        rw [hmr] at HT
        go_wp2_with fail
        go_roundw
        case rel => exact ⟨k + 1, m, B, cc, by have := HLT.out; omega, rfl, by go_num, hide (by rw [HT.out, hm.out]; simp), hap.ext hx2, hxr.trans' hx2⟩
        case measure => have := HLT.out; simp [intOf]; omega
      | true =>
        rw [hmr] at HT
        have b0 := (hB.cell 0).trans rfl
        have b1 := (hB.cell 1).trans rfl
        have b2 := (hB.cell 2).trans rfl
        have b3 := (hB.cell 3).trans rfl
        have b4 := (hB.cell 4).trans rfl
        have b5 := (hB.cell 5).trans rfl
        have b6 := (hB.cell 6).trans rfl
        have b7 := (hB.cell 7).trans rfl
        have b8 := (hB.cell 8).trans rfl
        go_wp2_with fail
        refine (one_b r _ _ W1 hmr HW.out (r2.1.ext hx2) (r3.1.ext hx2) ⟨by omega, by omega⟩).mono ?_
        rintro e W2 ⟨m2, A3, c3, hm2, rfl, hz2, hx3⟩
        have hl2 : m2.length ≤ 77 := by rw [hm2.out]; exact ho.2
        go_wp2_with fail
        refine (frame_b _ m2 W2 (by omega) hz2.bs).mono ?_
        rintro e W3 ⟨m3, A4, c4, hm3, rfl, hz3, hx4⟩
        have hl3 : m3.length ≤ 85 := by rw [hm3.out, oframe_length]; omega
        have hx5 := (hx2.trans' hx3).trans' hx4
        clear b0 b1 b2 b3 b4 b5 b6 b7 b8
        go_wp2_with (at_builtin; refine wpList_appA w _ rfl (.tmp 14) (.tmp 17) rfl _ m rfl (hap.ext hx5) (hxr.trans' hx5) _ m3 rfl hz3.bs (by omega) ?_; intro m4 A5 c5 w5 hm4 hap5 hx6 hsm6)
        go_roundw
        case rel => exact ⟨k + 1, m4, A5, c5, by have := HLT.out; omega, rfl, by go_num, hide (by rw [HT.out, hm4.out, hm3.out, hm2.out, hm.out]; simp), hap5, hx6⟩
        case measure => have := HLT.out; simp [intOf]; omega
    · obtain rfl : k = l.length := by omega
      go_wp2
      go_ret
      exact ⟨m, B, cc, hide (by rw [hm.out, List.take_length]), rfl, hap, hxr⟩
end Go.Proofs.Ytlhokicnedkieaa
