/- A part of the proof of 'StoreAll'. -/
import Derived.Test.YtlblgopfdadalaaS14
namespace Go.Proofs.Ytlblgopfdadalaa
set_option linter.unusedVariables false
set_option linter.unusedSimpArgs false
set_option linter.unnecessarySimpa false
set_option maxRecDepth 100000
open Go.RowKit
set_option maxHeartbeats 800000 in
theorem rmay_b (r : Rec) (v1 v2 : Value) (w : World) : Calls Try.prog 59 #[.agg (recells r v1 v2).toArray] w fun e w' => e = .returned (.bool (may r)) ∧ Ext w w' := by
  have hx : Ext w (w.alloc (.cells (recells r v1 v2).toArray 101)) := (Ext.rfl' w).alloc' _
  by_cases h1 : r.kind = 1
  · by_cases h2 : 0 ≤ r.hard.vote
    · by_cases h3 : r.hard.vote ≤ 7
      · have HM : Hid (may r = true) := by unfold Hid may; simp [h1, h2, h3]
        rw [HM.out]
        go_enter Try.func59, Try.ntmps59
        go_wp2
        go_ret
        exact ⟨rfl, hx⟩
      · have HM : Hid (may r = false) := by unfold Hid may; simp [h1, h3]
        rw [HM.out]
        go_enter Try.func59, Try.ntmps59
        go_wp2
        go_ret
        exact ⟨rfl, hx⟩
    · have HM : Hid (may r = false) := by unfold Hid may; simp [h1]; omega
      rw [HM.out]
      go_enter Try.func59, Try.ntmps59
      go_wp2
      go_ret
      exact ⟨rfl, hx⟩
  · by_cases h2 : 1 ≤ r.kind
    · by_cases h3 : r.kind ≤ 4
      · have HM : Hid (may r = true) := by unfold Hid may; simp [h1, h3]; omega
        rw [HM.out]
        go_enter Try.func59, Try.ntmps59
        go_wp2
        go_ret
        exact ⟨rfl, hx⟩
      · have HM : Hid (may r = false) := by unfold Hid may; simp [h1, h3]
        rw [HM.out]
        go_enter Try.func59, Try.ntmps59
        go_wp2
        go_ret
        exact ⟨rfl, hx⟩
    · have HM : Hid (may r = false) := by unfold Hid may; simp [h1]; omega
      rw [HM.out]
      go_enter Try.func59, Try.ntmps59
      go_wp2
      go_ret
      exact ⟨rfl, hx⟩
theorem rPut8 (x : Value) (l : Bytes) (v : Int) (w : World) (hv : U64 v) (hl : l.length ≤ 1000) (hr : Bs w x l) : Calls Try.prog 42 #[x, .int .u64 v, .int .i64 8] w fun e w' => RetNw w w' e (l ++ be 8 v.toNat) :=
  (rput_b x l v 8 w hv (by decide) (by omega) hr).mono fun _ _ h => h.eq (by simp [oput])
theorem be1_cell {v : Int} (h0 : 0 ≤ v) (h1 : v < 256) : ∃ b : UInt8, be 1 v.toNat = [b] ∧ ((b.toNat : Nat) : Int) = v := by
  refine ⟨UInt8.ofNat (v.toNat / 2 ^ (8 * 0)), rfl, ?_⟩
  rw [UInt8.toNat_ofNat']
  simp
  omega
set_option maxHeartbeats 6400000 in
theorem rputs_b (x : Value) (l : List Rec) (w : World) (hl : l.length ≤ 1000) (hx : Enc.Sl reE w noneAt x l) (hs : ∀ r ∈ l, r.wide ∧ r.small) :
    Calls Try.prog 57 #[x] w fun e w' => RetApp w w' e (lput l) := by
  obtain ⟨A, c, rfl, -, -⟩ := hx.form
  go_enter Try.func57, Try.ntmps57
  go_wp2_with fail
  go_loopw [3, 4] (fun vo vi wr => ∃ (k : Nat) (m : Bytes) (B : Option Addr) (cc : Nat), (k : Int) ≤ l.length ∧ vo = .slice B m.length cc ∧ vi = .int .i64 k ∧ Hid (m = lput (l.take k)) ∧ App w wr (.slice B m.length cc) m ∧ Ext w wr) (fun _ vi _ => (l.length - intOf vi).toNat)
  case atStart => exact ⟨0, [], none, 0, by omega, rfl, rfl, hide (by simp [lput]), (App0.nil _ _).app, Ext.rfl' _⟩
  case round =>
    obtain ⟨k, m, B, cc, hk, rfl, rfl, hm, hap, hxr⟩ := hrel
    by_cases hlt : (k : Int) < l.length
    · have HLT := hide hlt
      have hml : m.length ≤ 85 * k := by rw [hm.out]; exact small_take hs k
      obtain ⟨ad, r, v1, v2, rfl, hr, hb, p0, p1, p2, p3, p4, p5, p6, p7, p8, r1, r2, r3⟩ := re_at (hx.ext hxr) (k := k) (by omega)
      have hsm := (hs r (List.mem_of_getElem? hr.out)).2
      have ho := one_len hsm
      obtain ⟨hs1, hs2⟩ := hsm
      obtain ⟨A1, c1, rfl, -, -, -⟩ := id r2.1
      obtain ⟨A2, c2, rfl, -, -, -⟩ := id r3.1
      have HM := hide (fun W => rmay_b r (.slice A1 r.ent.data.length c1) (.slice A2 r.snap.state.length c2) W)
      have hB := Blk.new wr 101 (recells r (.slice A1 r.ent.data.length c1) (.slice A2 r.snap.state.length c2)).toArray
      have hxa := (Ext.rfl' wr).alloc' (.cells (recells r (.slice A1 r.ent.data.length c1) (.slice A2 r.snap.state.length c2)).toArray 101)
      obtain ⟨g, hg⟩ : ∃ g, wr.heap.size = g := ⟨_, rfl⟩
      rw [hg] at hB
      have HT := hide (lput_take hr.out)
      go_wp2_with fail
      refine (HM.out _).mono ?_
      rintro e W1 ⟨rfl, hx1⟩
      replace hB := hB.ext hx1
      have hx2 := hxa.trans' hx1
      cases hmr : may r with
      | false =>
        rw [hmr] at HT
        go_wp2_with fail
        go_roundw
        case rel => exact ⟨k + 1, m, B, cc, by have := HLT.out; omega, rfl, by go_num, hide (by rw [HT.out, hm.out]; simp), hap.ext hx2, hxr.trans' hx2⟩
        case measure => have := HLT.out; simp [intOf]; omega
      | true =>
        rw [hmr, if_pos rfl] at HT
        have hd := r2.1.ext hx2
        have hst := r3.1.ext hx2
        have hbo := (hap.ext hx2)
        have hxo := hxr.trans' hx2
        clear HM hx1 hxa hx2 hxr hap p0 p1 p2 p3 p4 p5 p6 p7 p8 hb hg
        have hk := may_kind hmr
        have HR := hr
        clear hr
        obtain ⟨kind, ⟨ht, hv⟩, ⟨et, ed⟩, ix, ⟨si, st, ss⟩⟩ := r
        obtain ⟨-, -, t0, t1, -, -, e0, e1, i0, i1, n0, n1, p0, p1⟩ := r1
        simp only at t0 t1 e0 e1 i0 i1 n0 n1 p0 p1 hd hst hs1 hs2 hk
        clear hmr r2 r3
        rcases hk with ⟨rfl, u0, u1⟩ | rfl | rfl | rfl
        · have b0 := (hB.cell 0).trans rfl
          have hK : Bs (W1.alloc (.cells #[.int .u8 1] 5)) (.slice (some ⟨W1.heap.size, 0, none⟩) 1 1) [1] := lit1 W1 1 W1.heap.size rfl
          have hxk := (Ext.rfl' W1).alloc' (.cells #[.int .u8 1] 5)
          obtain ⟨g6, hg6⟩ : ∃ g, W1.heap.size = g := ⟨_, rfl⟩
          rw [hg6] at hK
          have b0k := ((hB.ext hxk).cell 0).trans rfl
          go_upto_region 11 with fail
          generalize (W1.alloc (.cells #[.int .u8 1] 5)) = w3 at *
          replace hB := hB.ext hxk
          replace hd := hd.ext hxk
          replace hst := hst.ext hxk
          replace hbo := hbo.ext hxk
          replace hxo := hxo.trans' hxk
          clear b0 b0k hxk hg6
          have hwv : IntKind.u8.wrap hv = hv := by rw [IntKind.wrap_u8]; omega
          obtain ⟨vb, hvb, hvb2⟩ := be1_cell u0 (by omega)
          refine Rg.regionT Try.checked.mixed 74 10 (by kernel_rfl) [
            (fun x_ _ => x_ = .slice (some ⟨g6, 0, none⟩) 1 1),
            (fun x_ _ => x_ = .pointer (some ⟨g, 1, none⟩)),
            (fun x_ _ => x_ = .pointer (some ⟨g, 1, none⟩)),
            (fun x_ _ => x_ = .int .u64 ht),
            (fun v W => Nw w3 W v ([1] ++ be 8 ht.toNat)),
            (fun x_ _ => x_ = .pointer (some ⟨g, 1, none⟩)),
            (fun x_ _ => x_ = .pointer (some ⟨g, 2, none⟩)),
            (fun x_ _ => x_ = .int .i64 hv),
            (fun x_ _ => x_ = .int .u8 hv),
            (fun v W => Bs W v [vb])] (fun W => Ext w3 W) Ext rfl rfl rfl
            ?st ((Ext.rfl' w3).drew') ?ob ?en
          case st => exact ⟨fun _ _ _ h _ => h, fun _ _ _ h _ => h, fun _ _ _ h _ => h, fun _ _ _ h _ => h, fun _ _ _ h hx => own_ext h hx, fun _ _ _ h _ => h, fun _ _ _ h _ => h, fun _ _ _ h _ => h, fun _ _ _ h _ => h, fun _ _ _ h hx => h.ext hx, trivial⟩
          case ob =>
            refine ⟨Rg.at_run [6] rfl ?_, ?_⟩
            · intro ρ W hR ⟨q6, _⟩
              replace q6 : ρ 6 = .slice (some ⟨g6, 0, none⟩) 1 1 := q6
              refine ⟨rfl, ?_⟩
              exact Rg.run_ok (v := .slice (some ⟨g6, 0, none⟩) 1 1) (by simp [execOp, Rg.ev, go_sem, q6]) ⟨rfl, hR, Ext.rfl' _⟩
            refine ⟨Rg.at_run [5] rfl ?_, ?_⟩
            · intro ρ W hR ⟨q5, _⟩
              replace q5 : ρ 5 = .pointer (some ⟨g, 0, none⟩) := q5
              refine ⟨rfl, ?_⟩
              exact Rg.run_ok (v := .pointer (some ⟨g, 1, none⟩)) (by simp [execOp, Rg.ev, go_sem, q5]) ⟨rfl, hR, Ext.rfl' _⟩
            refine ⟨Rg.at_run [42] rfl ?_, ?_⟩
            · intro ρ W hR ⟨q42, _⟩
              replace q42 : ρ 42 = .pointer (some ⟨g, 1, none⟩) := q42
              refine ⟨rfl, ?_⟩
              exact Rg.run_ok (v := .pointer (some ⟨g, 1, none⟩)) (by simp [execOp, Rg.ev, go_sem, q42]) ⟨rfl, hR, Ext.rfl' _⟩
            refine ⟨Rg.at_run [43] rfl ?_, ?_⟩
            · intro ρ W hR ⟨q43, _⟩
              replace q43 : ρ 43 = .pointer (some ⟨g, 1, none⟩) := q43
              refine ⟨rfl, ?_⟩
              have c1_ : W.cell? ⟨g, 1, none⟩ = some (.int .u64 ht) := ((hB.ext hR).cell 1).trans rfl
              exact Rg.run_ok (v := .int .u64 ht) (by simp [execOp, Rg.ev, go_sem, q43, c1_]) ⟨rfl, hR, Ext.rfl' _⟩
            refine ⟨Rg.at_run [41, 44] rfl ?_, ?_⟩
            · intro ρ W hR ⟨q41, q44, _⟩
              replace q41 : ρ 41 = .slice (some ⟨g6, 0, none⟩) 1 1 := q41
              replace q44 : ρ 44 = .int .u64 ht := q44
              refine ⟨rfl, ?_⟩
              refine Rg.run_enter (by simp [execOp, Rg.ev, go_sem, q41, q44]; exact ⟨⟨rfl, rfl⟩, rfl⟩) ?_
              refine (rPut8 _ [1] ht W ⟨t0, t1⟩ (by simp) (hK.ext hR)).mono ?_
              rintro e w2 ⟨m9, Am, cm, hm9, rfl, hz, hxx⟩
              have hm' := hm9.out
              subst hm'
              exact ⟨_, rfl, hz.trans hR, hR.trans' hxx, hxx⟩
            refine ⟨Rg.at_run [5] rfl ?_, ?_⟩
            · intro ρ W hR ⟨q5, _⟩
              replace q5 : ρ 5 = .pointer (some ⟨g, 0, none⟩) := q5
              refine ⟨rfl, ?_⟩
              exact Rg.run_ok (v := .pointer (some ⟨g, 1, none⟩)) (by simp [execOp, Rg.ev, go_sem, q5]) ⟨rfl, hR, Ext.rfl' _⟩
            refine ⟨Rg.at_run [46] rfl ?_, ?_⟩
            · intro ρ W hR ⟨q46, _⟩
              replace q46 : ρ 46 = .pointer (some ⟨g, 1, none⟩) := q46
              refine ⟨rfl, ?_⟩
              exact Rg.run_ok (v := .pointer (some ⟨g, 2, none⟩)) (by simp [execOp, Rg.ev, go_sem, q46]) ⟨rfl, hR, Ext.rfl' _⟩
            refine ⟨Rg.at_run [47] rfl ?_, ?_⟩
            · intro ρ W hR ⟨q47, _⟩
              replace q47 : ρ 47 = .pointer (some ⟨g, 2, none⟩) := q47
              refine ⟨rfl, ?_⟩
              have c2_ : W.cell? ⟨g, 2, none⟩ = some (.int .i64 hv) := ((hB.ext hR).cell 2).trans rfl
              exact Rg.run_ok (v := .int .i64 hv) (by simp [execOp, Rg.ev, go_sem, q47, c2_]) ⟨rfl, hR, Ext.rfl' _⟩
            refine ⟨Rg.at_run [48] rfl ?_, ?_⟩
            · intro ρ W hR ⟨q48, _⟩
              replace q48 : ρ 48 = .int .i64 hv := q48
              refine ⟨rfl, ?_⟩
              exact Rg.run_ok (v := .int .u8 hv) (by simp [execOp, Rg.ev, go_sem, q48, hwv]) ⟨rfl, hR, Ext.rfl' _⟩
            refine ⟨Rg.at_run [49] rfl ?_, ?_⟩
            · intro ρ W hR ⟨q49, _⟩
              replace q49 : ρ 49 = .int .u8 hv := q49
              refine ⟨rfl, ?_⟩
              refine Rg.run_ok (v := .slice (some ⟨W.heap.size, 0, none⟩) 1 1) (W' := W.alloc (.cells #[.int .u8 hv] 5)) (by simp [execOp, Rg.ev, go_sem, q49]) ⟨?_, hR.alloc' _, (Ext.rfl' _).alloc' _⟩
              have h := lit1 W vb W.heap.size rfl
              rw [hvb2] at h
              exact h
            trivial
          case en =>
            intro tm W hR hsz hk
            rw [Rg.fin_eq (ds := [41, 42, 43, 44, 45, 46, 47, 48, 49, 50]) rfl rfl rfl hsz hk]
            have k41 : tm.getD 41 undef = .slice (some ⟨g6, 0, none⟩) 1 1 := hk 41
            have k42 : tm.getD 42 undef = .pointer (some ⟨g, 1, none⟩) := hk 42
            have k43 : tm.getD 43 undef = .pointer (some ⟨g, 1, none⟩) := hk 43
            have k44 : tm.getD 44 undef = .int .u64 ht := hk 44
            have k45 : (fun v W => Nw w3 W v ([1] ++ be 8 ht.toNat)) (tm.getD 45 undef) W := hk 45
            have k46 : tm.getD 46 undef = .pointer (some ⟨g, 1, none⟩) := hk 46
            have k47 : tm.getD 47 undef = .pointer (some ⟨g, 2, none⟩) := hk 47
            have k48 : tm.getD 48 undef = .int .i64 hv := hk 48
            have k49 : tm.getD 49 undef = .int .u8 hv := hk 49
            have k50 : (fun v W => Bs W v [vb]) (tm.getD 50 undef) W := hk 50
            clear hk hsz
            simp only [Rg.putAll, List.setIfInBounds_toArray, List.set_cons_zero, List.set_cons_succ, k41, k42, k43, k44, k46, k47, k48, k49]
            clear k41
            clear k42
            clear k43
            clear k44
            generalize tm.getD 45 undef = u45 at *
            clear k46
            clear k47
            clear k48
            clear k49
            generalize tm.getD 50 undef = u50 at *
            have HVB := hide hvb
            clear hvb2 hvb
            obtain ⟨A5, c5, hv5, -, -⟩ := own_slice (id k45)
            subst hv5
            refine wpList_appA w3 _ rfl (.tmp 45) (.tmp 50) rfl _ ([1] ++ be 8 ht.toNat) rfl (.inr k45) (hR) _ ([vb]) rfl (k50) (by simp [be_length] <;> omega) ?_
            intro m6 A6 c6 w6 hm6e hap6 hx6 hsm6
            go_upto_region 16 with fail
            have hm6 : Hid (m6 = one ⟨1, ⟨ht, hv⟩, ⟨et, ed⟩, ix, ⟨si, st, ss⟩⟩) := by unfold Hid; rw [hm6e.out]; simp [one, HVB.out]
            have hb6 := hap6.bs
            have hl6 : m6.length ≤ 77 := by have := hm6.out; subst this; exact ho.2
            go_wp2_with fail
            refine (rframe_b _ m6 w6 (by omega) hb6).mono ?_
            rintro e W7 ⟨m7, A7, c7, hm7, rfl, hz7, hx7⟩
            have hl7 : m7.length ≤ 85 := by rw [hm7.out, oframe_length]; omega
            go_wp2_with (at_builtin; refine wpList_appA w _ rfl (.tmp 69) (.tmp 71) rfl _ m rfl (hbo.ext (hx6.trans' hx7)) ((hxo.trans' hx6).trans' hx7) _ m7 rfl hz7.bs (by omega) ?_; intro m8 A8 c8 w8 hm8 hap8 hx8 hsm8)
            go_roundw
            case rel => exact ⟨k + 1, m8, A8, c8, by have := HLT.out; omega, rfl, by go_num, hide (by rw [HT.out, hm8.out, hm7.out, hm6.out, hm.out]), hap8, hx8⟩
            case measure => have := HLT.out; simp [intOf]; omega
        · have b0 := (hB.cell 0).trans rfl
          have hK : Bs (W1.alloc (.cells #[.int .u8 2] 5)) (.slice (some ⟨W1.heap.size, 0, none⟩) 1 1) [2] := lit1 W1 2 W1.heap.size rfl
          have hxk := (Ext.rfl' W1).alloc' (.cells #[.int .u8 2] 5)
          obtain ⟨g6, hg6⟩ : ∃ g, W1.heap.size = g := ⟨_, rfl⟩
          rw [hg6] at hK
          have b0k := ((hB.ext hxk).cell 0).trans rfl
          go_upto_region 13 with fail
          generalize (W1.alloc (.cells #[.int .u8 2] 5)) = w3 at *
          replace hB := hB.ext hxk
          replace hd := hd.ext hxk
          replace hst := hst.ext hxk
          replace hbo := hbo.ext hxk
          replace hxo := hxo.trans' hxk
          clear b0 b0k hxk hg6
          refine Rg.regionT Try.checked.mixed 74 8 (by kernel_rfl) [
            (fun x_ _ => x_ = .slice (some ⟨g6, 0, none⟩) 1 1),
            (fun x_ _ => x_ = .pointer (some ⟨g, 3, none⟩)),
            (fun x_ _ => x_ = .pointer (some ⟨g, 3, none⟩)),
            (fun x_ _ => x_ = .int .u64 et),
            (fun v W => Nw w3 W v ([2] ++ be 8 et.toNat)),
            (fun x_ _ => x_ = .pointer (some ⟨g, 3, none⟩)),
            (fun x_ _ => x_ = .pointer (some ⟨g, 4, none⟩)),
            (fun x_ _ => x_ = .slice A1 ed.length c1)] (fun W => Ext w3 W) Ext rfl rfl rfl
            ?st ((Ext.rfl' w3).drew') ?ob ?en
          case st => exact ⟨fun _ _ _ h _ => h, fun _ _ _ h _ => h, fun _ _ _ h _ => h, fun _ _ _ h _ => h, fun _ _ _ h hx => own_ext h hx, fun _ _ _ h _ => h, fun _ _ _ h _ => h, fun _ _ _ h _ => h, trivial⟩
          case ob =>
            refine ⟨Rg.at_run [6] rfl ?_, ?_⟩
            · intro ρ W hR ⟨q6, _⟩
              replace q6 : ρ 6 = .slice (some ⟨g6, 0, none⟩) 1 1 := q6
              refine ⟨rfl, ?_⟩
              exact Rg.run_ok (v := .slice (some ⟨g6, 0, none⟩) 1 1) (by simp [execOp, Rg.ev, go_sem, q6]) ⟨rfl, hR, Ext.rfl' _⟩
            refine ⟨Rg.at_run [5] rfl ?_, ?_⟩
            · intro ρ W hR ⟨q5, _⟩
              replace q5 : ρ 5 = .pointer (some ⟨g, 0, none⟩) := q5
              refine ⟨rfl, ?_⟩
              exact Rg.run_ok (v := .pointer (some ⟨g, 3, none⟩)) (by simp [execOp, Rg.ev, go_sem, q5]) ⟨rfl, hR, Ext.rfl' _⟩
            refine ⟨Rg.at_run [55] rfl ?_, ?_⟩
            · intro ρ W hR ⟨q55, _⟩
              replace q55 : ρ 55 = .pointer (some ⟨g, 3, none⟩) := q55
              refine ⟨rfl, ?_⟩
              exact Rg.run_ok (v := .pointer (some ⟨g, 3, none⟩)) (by simp [execOp, Rg.ev, go_sem, q55]) ⟨rfl, hR, Ext.rfl' _⟩
            refine ⟨Rg.at_run [56] rfl ?_, ?_⟩
            · intro ρ W hR ⟨q56, _⟩
              replace q56 : ρ 56 = .pointer (some ⟨g, 3, none⟩) := q56
              refine ⟨rfl, ?_⟩
              have c3_ : W.cell? ⟨g, 3, none⟩ = some (.int .u64 et) := ((hB.ext hR).cell 3).trans rfl
              exact Rg.run_ok (v := .int .u64 et) (by simp [execOp, Rg.ev, go_sem, q56, c3_]) ⟨rfl, hR, Ext.rfl' _⟩
            refine ⟨Rg.at_run [54, 57] rfl ?_, ?_⟩
            · intro ρ W hR ⟨q54, q57, _⟩
              replace q54 : ρ 54 = .slice (some ⟨g6, 0, none⟩) 1 1 := q54
              replace q57 : ρ 57 = .int .u64 et := q57
              refine ⟨rfl, ?_⟩
              refine Rg.run_enter (by simp [execOp, Rg.ev, go_sem, q54, q57]; exact ⟨⟨rfl, rfl⟩, rfl⟩) ?_
              refine (rPut8 _ [2] et W ⟨e0, e1⟩ (by simp) (hK.ext hR)).mono ?_
              rintro e w2 ⟨m9, Am, cm, hm9, rfl, hz, hxx⟩
              have hm' := hm9.out
              subst hm'
              exact ⟨_, rfl, hz.trans hR, hR.trans' hxx, hxx⟩
            refine ⟨Rg.at_run [5] rfl ?_, ?_⟩
            · intro ρ W hR ⟨q5, _⟩
              replace q5 : ρ 5 = .pointer (some ⟨g, 0, none⟩) := q5
              refine ⟨rfl, ?_⟩
              exact Rg.run_ok (v := .pointer (some ⟨g, 3, none⟩)) (by simp [execOp, Rg.ev, go_sem, q5]) ⟨rfl, hR, Ext.rfl' _⟩
            refine ⟨Rg.at_run [59] rfl ?_, ?_⟩
            · intro ρ W hR ⟨q59, _⟩
              replace q59 : ρ 59 = .pointer (some ⟨g, 3, none⟩) := q59
              refine ⟨rfl, ?_⟩
              exact Rg.run_ok (v := .pointer (some ⟨g, 4, none⟩)) (by simp [execOp, Rg.ev, go_sem, q59]) ⟨rfl, hR, Ext.rfl' _⟩
            refine ⟨Rg.at_run [60] rfl ?_, ?_⟩
            · intro ρ W hR ⟨q60, _⟩
              replace q60 : ρ 60 = .pointer (some ⟨g, 4, none⟩) := q60
              refine ⟨rfl, ?_⟩
              have c4_ : W.cell? ⟨g, 4, none⟩ = some (.slice A1 ed.length c1) := ((hB.ext hR).cell 4).trans rfl
              exact Rg.run_ok (v := .slice A1 ed.length c1) (by simp [execOp, Rg.ev, go_sem, q60, c4_]) ⟨rfl, hR, Ext.rfl' _⟩
            trivial
          case en =>
            intro tm W hR hsz hk
            rw [Rg.fin_eq (ds := [54, 55, 56, 57, 58, 59, 60, 61]) rfl rfl rfl hsz hk]
            have k54 : tm.getD 54 undef = .slice (some ⟨g6, 0, none⟩) 1 1 := hk 54
            have k55 : tm.getD 55 undef = .pointer (some ⟨g, 3, none⟩) := hk 55
            have k56 : tm.getD 56 undef = .pointer (some ⟨g, 3, none⟩) := hk 56
            have k57 : tm.getD 57 undef = .int .u64 et := hk 57
            have k58 : (fun v W => Nw w3 W v ([2] ++ be 8 et.toNat)) (tm.getD 58 undef) W := hk 58
            have k59 : tm.getD 59 undef = .pointer (some ⟨g, 3, none⟩) := hk 59
            have k60 : tm.getD 60 undef = .pointer (some ⟨g, 4, none⟩) := hk 60
            have k61 : tm.getD 61 undef = .slice A1 ed.length c1 := hk 61
            clear hk hsz
            simp only [Rg.putAll, List.setIfInBounds_toArray, List.set_cons_zero, List.set_cons_succ, k54, k55, k56, k57, k59, k60, k61]
            clear k54
            clear k55
            clear k56
            clear k57
            generalize tm.getD 58 undef = u58 at *
            clear k59
            clear k60
            clear k61
            obtain ⟨A5, c5, hv5, -, -⟩ := own_slice (id k58)
            subst hv5
            refine wpList_appA w3 _ rfl (.tmp 58) (.tmp 61) rfl _ ([2] ++ be 8 et.toNat) rfl (.inr k58) (hR) _ (ed) rfl (hd.ext hR) (by simp [be_length] <;> omega) ?_
            intro m6 A6 c6 w6 hm6e hap6 hx6 hsm6
            go_upto_region 16 with fail
            have hm6 : Hid (m6 = one ⟨2, ⟨ht, hv⟩, ⟨et, ed⟩, ix, ⟨si, st, ss⟩⟩) := by unfold Hid; rw [hm6e.out]; simp [one]
            have hb6 := hap6.bs
            have hl6 : m6.length ≤ 77 := by have := hm6.out; subst this; exact ho.2
            go_wp2_with fail
            refine (rframe_b _ m6 w6 (by omega) hb6).mono ?_
            rintro e W7 ⟨m7, A7, c7, hm7, rfl, hz7, hx7⟩
            have hl7 : m7.length ≤ 85 := by rw [hm7.out, oframe_length]; omega
            go_wp2_with (at_builtin; refine wpList_appA w _ rfl (.tmp 69) (.tmp 71) rfl _ m rfl (hbo.ext (hx6.trans' hx7)) ((hxo.trans' hx6).trans' hx7) _ m7 rfl hz7.bs (by omega) ?_; intro m8 A8 c8 w8 hm8 hap8 hx8 hsm8)
            go_roundw
            case rel => exact ⟨k + 1, m8, A8, c8, by have := HLT.out; omega, rfl, by go_num, hide (by rw [HT.out, hm8.out, hm7.out, hm6.out, hm.out]), hap8, hx8⟩
            case measure => have := HLT.out; simp [intOf]; omega
        · have b0 := (hB.cell 0).trans rfl
          have hK : Bs (W1.alloc (.cells #[.int .u8 3] 5)) (.slice (some ⟨W1.heap.size, 0, none⟩) 1 1) [3] := lit1 W1 3 W1.heap.size rfl
          have hxk := (Ext.rfl' W1).alloc' (.cells #[.int .u8 3] 5)
          obtain ⟨g6, hg6⟩ : ∃ g, W1.heap.size = g := ⟨_, rfl⟩
          rw [hg6] at hK
          have b0k := ((hB.ext hxk).cell 0).trans rfl
          go_upto_region 15 with fail
          generalize (W1.alloc (.cells #[.int .u8 3] 5)) = w3 at *
          replace hB := hB.ext hxk
          replace hd := hd.ext hxk
          replace hst := hst.ext hxk
          replace hbo := hbo.ext hxk
          replace hxo := hxo.trans' hxk
          clear b0 b0k hxk hg6
          · have y3 := (hB.cell 5).trans rfl
            go_wp2_with fail
            refine (rPut8 _ [3] ix _ ⟨i0, i1⟩ (by simp) hK).mono ?_
            rintro e w6 ⟨m6, A6, c6, hm6e, rfl, hz6, hx6'⟩
            have hm6 : Hid (m6 = one ⟨3, ⟨ht, hv⟩, ⟨et, ed⟩, ix, ⟨si, st, ss⟩⟩) := by unfold Hid; rw [hm6e.out]; simp [one]
            have hb6 := hz6.bs
            have hx6 := hx6'
            have hl6 : m6.length ≤ 77 := by have := hm6.out; subst this; exact ho.2
            go_wp2_with fail
            refine (rframe_b _ m6 w6 (by omega) hb6).mono ?_
            rintro e W7 ⟨m7, A7, c7, hm7, rfl, hz7, hx7⟩
            have hl7 : m7.length ≤ 85 := by rw [hm7.out, oframe_length]; omega
            go_wp2_with (at_builtin; refine wpList_appA w _ rfl (.tmp 69) (.tmp 71) rfl _ m rfl (hbo.ext (hx6.trans' hx7)) ((hxo.trans' hx6).trans' hx7) _ m7 rfl hz7.bs (by omega) ?_; intro m8 A8 c8 w8 hm8 hap8 hx8 hsm8)
            go_roundw
            case rel => exact ⟨k + 1, m8, A8, c8, by have := HLT.out; omega, rfl, by go_num, hide (by rw [HT.out, hm8.out, hm7.out, hm6.out, hm.out]), hap8, hx8⟩
            case measure => have := HLT.out; simp [intOf]; omega
        · have b0 := (hB.cell 0).trans rfl
          have hK : Bs (W1.alloc (.cells #[.int .u8 4] 5)) (.slice (some ⟨W1.heap.size, 0, none⟩) 1 1) [4] := lit1 W1 4 W1.heap.size rfl
          have hxk := (Ext.rfl' W1).alloc' (.cells #[.int .u8 4] 5)
          obtain ⟨g6, hg6⟩ : ∃ g, W1.heap.size = g := ⟨_, rfl⟩
          rw [hg6] at hK
          have b0k := ((hB.ext hxk).cell 0).trans rfl
          go_upto_region 9 with fail
          generalize (W1.alloc (.cells #[.int .u8 4] 5)) = w3 at *
          replace hB := hB.ext hxk
          replace hd := hd.ext hxk
          replace hst := hst.ext hxk
          replace hbo := hbo.ext hxk
          replace hxo := hxo.trans' hxk
          clear b0 b0k hxk hg6
          refine Rg.regionT Try.checked.mixed 74 12 (by kernel_rfl) [
            (fun x_ _ => x_ = .slice (some ⟨g6, 0, none⟩) 1 1),
            (fun x_ _ => x_ = .pointer (some ⟨g, 6, none⟩)),
            (fun x_ _ => x_ = .pointer (some ⟨g, 6, none⟩)),
            (fun x_ _ => x_ = .int .u64 si),
            (fun v W => Nw w3 W v ([4] ++ be 8 si.toNat)),
            (fun x_ _ => x_ = .pointer (some ⟨g, 6, none⟩)),
            (fun x_ _ => x_ = .pointer (some ⟨g, 7, none⟩)),
            (fun x_ _ => x_ = .int .u64 st),
            (fun v W => Nw w3 W v ([4] ++ be 8 si.toNat ++ be 8 st.toNat)),
            (fun x_ _ => x_ = .pointer (some ⟨g, 6, none⟩)),
            (fun x_ _ => x_ = .pointer (some ⟨g, 8, none⟩)),
            (fun x_ _ => x_ = .slice A2 ss.length c2)] (fun W => Ext w3 W) Ext rfl rfl rfl
            ?st ((Ext.rfl' w3).drew') ?ob ?en
          case st => exact ⟨fun _ _ _ h _ => h, fun _ _ _ h _ => h, fun _ _ _ h _ => h, fun _ _ _ h _ => h, fun _ _ _ h hx => own_ext h hx, fun _ _ _ h _ => h, fun _ _ _ h _ => h, fun _ _ _ h _ => h, fun _ _ _ h hx => own_ext h hx, fun _ _ _ h _ => h, fun _ _ _ h _ => h, fun _ _ _ h _ => h, trivial⟩
          case ob =>
            refine ⟨Rg.at_run [6] rfl ?_, ?_⟩
            · intro ρ W hR ⟨q6, _⟩
              replace q6 : ρ 6 = .slice (some ⟨g6, 0, none⟩) 1 1 := q6
              refine ⟨rfl, ?_⟩
              exact Rg.run_ok (v := .slice (some ⟨g6, 0, none⟩) 1 1) (by simp [execOp, Rg.ev, go_sem, q6]) ⟨rfl, hR, Ext.rfl' _⟩
            refine ⟨Rg.at_run [5] rfl ?_, ?_⟩
            · intro ρ W hR ⟨q5, _⟩
              replace q5 : ρ 5 = .pointer (some ⟨g, 0, none⟩) := q5
              refine ⟨rfl, ?_⟩
              exact Rg.run_ok (v := .pointer (some ⟨g, 6, none⟩)) (by simp [execOp, Rg.ev, go_sem, q5]) ⟨rfl, hR, Ext.rfl' _⟩
            refine ⟨Rg.at_run [27] rfl ?_, ?_⟩
            · intro ρ W hR ⟨q27, _⟩
              replace q27 : ρ 27 = .pointer (some ⟨g, 6, none⟩) := q27
              refine ⟨rfl, ?_⟩
              exact Rg.run_ok (v := .pointer (some ⟨g, 6, none⟩)) (by simp [execOp, Rg.ev, go_sem, q27]) ⟨rfl, hR, Ext.rfl' _⟩
            refine ⟨Rg.at_run [28] rfl ?_, ?_⟩
            · intro ρ W hR ⟨q28, _⟩
              replace q28 : ρ 28 = .pointer (some ⟨g, 6, none⟩) := q28
              refine ⟨rfl, ?_⟩
              have c6_ : W.cell? ⟨g, 6, none⟩ = some (.int .u64 si) := ((hB.ext hR).cell 6).trans rfl
              exact Rg.run_ok (v := .int .u64 si) (by simp [execOp, Rg.ev, go_sem, q28, c6_]) ⟨rfl, hR, Ext.rfl' _⟩
            refine ⟨Rg.at_run [26, 29] rfl ?_, ?_⟩
            · intro ρ W hR ⟨q26, q29, _⟩
              replace q26 : ρ 26 = .slice (some ⟨g6, 0, none⟩) 1 1 := q26
              replace q29 : ρ 29 = .int .u64 si := q29
              refine ⟨rfl, ?_⟩
              refine Rg.run_enter (by simp [execOp, Rg.ev, go_sem, q26, q29]; exact ⟨⟨rfl, rfl⟩, rfl⟩) ?_
              refine (rPut8 _ [4] si W ⟨n0, n1⟩ (by simp) (hK.ext hR)).mono ?_
              rintro e w2 ⟨m9, Am, cm, hm9, rfl, hz, hxx⟩
              have hm' := hm9.out
              subst hm'
              exact ⟨_, rfl, hz.trans hR, hR.trans' hxx, hxx⟩
            refine ⟨Rg.at_run [5] rfl ?_, ?_⟩
            · intro ρ W hR ⟨q5, _⟩
              replace q5 : ρ 5 = .pointer (some ⟨g, 0, none⟩) := q5
              refine ⟨rfl, ?_⟩
              exact Rg.run_ok (v := .pointer (some ⟨g, 6, none⟩)) (by simp [execOp, Rg.ev, go_sem, q5]) ⟨rfl, hR, Ext.rfl' _⟩
            refine ⟨Rg.at_run [31] rfl ?_, ?_⟩
            · intro ρ W hR ⟨q31, _⟩
              replace q31 : ρ 31 = .pointer (some ⟨g, 6, none⟩) := q31
              refine ⟨rfl, ?_⟩
              exact Rg.run_ok (v := .pointer (some ⟨g, 7, none⟩)) (by simp [execOp, Rg.ev, go_sem, q31]) ⟨rfl, hR, Ext.rfl' _⟩
            refine ⟨Rg.at_run [32] rfl ?_, ?_⟩
            · intro ρ W hR ⟨q32, _⟩
              replace q32 : ρ 32 = .pointer (some ⟨g, 7, none⟩) := q32
              refine ⟨rfl, ?_⟩
              have c7_ : W.cell? ⟨g, 7, none⟩ = some (.int .u64 st) := ((hB.ext hR).cell 7).trans rfl
              exact Rg.run_ok (v := .int .u64 st) (by simp [execOp, Rg.ev, go_sem, q32, c7_]) ⟨rfl, hR, Ext.rfl' _⟩
            refine ⟨Rg.at_run [30, 33] rfl ?_, ?_⟩
            · intro ρ W hR ⟨q30, q33, _⟩
              replace q30 : (fun v W => Nw w3 W v ([4] ++ be 8 si.toNat)) (ρ 30) W := q30
              replace q33 : ρ 33 = .int .u64 st := q33
              refine ⟨rfl, ?_⟩
              refine Rg.run_enter (by simp [execOp, Rg.ev, go_sem, q33]; exact ⟨⟨rfl, rfl⟩, rfl⟩) ?_
              refine (rPut8 _ _ st W ⟨p0, p1⟩ (by simp [be_length]) (Nw.bs q30)).mono ?_
              rintro e w2 ⟨m9, Am, cm, hm9, rfl, hz, hxx⟩
              have hm' := hm9.out
              subst hm'
              exact ⟨_, rfl, hz.trans hR, hR.trans' hxx, hxx⟩
            refine ⟨Rg.at_run [5] rfl ?_, ?_⟩
            · intro ρ W hR ⟨q5, _⟩
              replace q5 : ρ 5 = .pointer (some ⟨g, 0, none⟩) := q5
              refine ⟨rfl, ?_⟩
              exact Rg.run_ok (v := .pointer (some ⟨g, 6, none⟩)) (by simp [execOp, Rg.ev, go_sem, q5]) ⟨rfl, hR, Ext.rfl' _⟩
            refine ⟨Rg.at_run [35] rfl ?_, ?_⟩
            · intro ρ W hR ⟨q35, _⟩
              replace q35 : ρ 35 = .pointer (some ⟨g, 6, none⟩) := q35
              refine ⟨rfl, ?_⟩
              exact Rg.run_ok (v := .pointer (some ⟨g, 8, none⟩)) (by simp [execOp, Rg.ev, go_sem, q35]) ⟨rfl, hR, Ext.rfl' _⟩
            refine ⟨Rg.at_run [36] rfl ?_, ?_⟩
            · intro ρ W hR ⟨q36, _⟩
              replace q36 : ρ 36 = .pointer (some ⟨g, 8, none⟩) := q36
              refine ⟨rfl, ?_⟩
              have c8_ : W.cell? ⟨g, 8, none⟩ = some (.slice A2 ss.length c2) := ((hB.ext hR).cell 8).trans rfl
              exact Rg.run_ok (v := .slice A2 ss.length c2) (by simp [execOp, Rg.ev, go_sem, q36, c8_]) ⟨rfl, hR, Ext.rfl' _⟩
            trivial
          case en =>
            intro tm W hR hsz hk
            rw [Rg.fin_eq (ds := [26, 27, 28, 29, 30, 31, 32, 33, 34, 35, 36, 37]) rfl rfl rfl hsz hk]
            have k26 : tm.getD 26 undef = .slice (some ⟨g6, 0, none⟩) 1 1 := hk 26
            have k27 : tm.getD 27 undef = .pointer (some ⟨g, 6, none⟩) := hk 27
            have k28 : tm.getD 28 undef = .pointer (some ⟨g, 6, none⟩) := hk 28
            have k29 : tm.getD 29 undef = .int .u64 si := hk 29
            have k30 : (fun v W => Nw w3 W v ([4] ++ be 8 si.toNat)) (tm.getD 30 undef) W := hk 30
            have k31 : tm.getD 31 undef = .pointer (some ⟨g, 6, none⟩) := hk 31
            have k32 : tm.getD 32 undef = .pointer (some ⟨g, 7, none⟩) := hk 32
            have k33 : tm.getD 33 undef = .int .u64 st := hk 33
            have k34 : (fun v W => Nw w3 W v ([4] ++ be 8 si.toNat ++ be 8 st.toNat)) (tm.getD 34 undef) W := hk 34
            have k35 : tm.getD 35 undef = .pointer (some ⟨g, 6, none⟩) := hk 35
            have k36 : tm.getD 36 undef = .pointer (some ⟨g, 8, none⟩) := hk 36
            have k37 : tm.getD 37 undef = .slice A2 ss.length c2 := hk 37
            clear hk hsz
            simp only [Rg.putAll, List.setIfInBounds_toArray, List.set_cons_zero, List.set_cons_succ, k26, k27, k28, k29, k31, k32, k33, k35, k36, k37]
            clear k26
            clear k27
            clear k28
            clear k29
            generalize tm.getD 30 undef = u30 at *
            clear k31
            clear k32
            clear k33
            generalize tm.getD 34 undef = u34 at *
            clear k35
            clear k36
            clear k37
            obtain ⟨A5, c5, hv5, -, -⟩ := own_slice (id k34)
            subst hv5
            refine wpList_appA w3 _ rfl (.tmp 34) (.tmp 37) rfl _ ([4] ++ be 8 si.toNat ++ be 8 st.toNat) rfl (.inr k34) (hR) _ (ss) rfl (hst.ext hR) (by simp [be_length] <;> omega) ?_
            intro m6 A6 c6 w6 hm6e hap6 hx6 hsm6
            go_upto_region 16 with fail
            have hm6 : Hid (m6 = one ⟨4, ⟨ht, hv⟩, ⟨et, ed⟩, ix, ⟨si, st, ss⟩⟩) := by unfold Hid; rw [hm6e.out]; simp [one]
            have hb6 := hap6.bs
            have hl6 : m6.length ≤ 77 := by have := hm6.out; subst this; exact ho.2
            go_wp2_with fail
            refine (rframe_b _ m6 w6 (by omega) hb6).mono ?_
            rintro e W7 ⟨m7, A7, c7, hm7, rfl, hz7, hx7⟩
            have hl7 : m7.length ≤ 85 := by rw [hm7.out, oframe_length]; omega
            go_wp2_with (at_builtin; refine wpList_appA w _ rfl (.tmp 69) (.tmp 71) rfl _ m rfl (hbo.ext (hx6.trans' hx7)) ((hxo.trans' hx6).trans' hx7) _ m7 rfl hz7.bs (by omega) ?_; intro m8 A8 c8 w8 hm8 hap8 hx8 hsm8)
            go_roundw
            case rel => exact ⟨k + 1, m8, A8, c8, by have := HLT.out; omega, rfl, by go_num, hide (by rw [HT.out, hm8.out, hm7.out, hm6.out, hm.out]), hap8, hx8⟩
            case measure => have := HLT.out; simp [intOf]; omega
    · obtain rfl : k = l.length := by omega
      go_wp2
      go_ret
      exact ⟨m, B, cc, hide (by rw [hm.out, List.take_length]), rfl, hap, hxr⟩
end Go.Proofs.Ytlblgopfdadalaa
