/- DiskLasts: what the law itself does. -/
import Derived.Test.YtlhokicnedkieaaDiskFront
import Derived.Test.YtlhokicnedkieaaApp
namespace Go.Proofs.Ytlhokicnedkieaa
set_option linter.unusedVariables false
set_option linter.unusedSimpArgs false
set_option linter.unnecessarySimpa false
set_option maxRecDepth 100000
open Go.RowKit
theorem Dk.cut_take (d : Dk) (p : Int) : d.b.take (d.cut p).b.length = (d.cut p).b := by
  simp only [Dk.cut, List.length_take]
  rw [← List.take_take]; simp
theorem op_cases (d : Dk) (size : Int) (f h : Dk → Dk) (hd : d.de = false) (hs : size ≤ 200000) :
    d.op size f h = ((h d).crash (h d).pt, 16) ∨ ∃ d1, d.op size f h = (f d1, 0) ∧ d1.b = d.b ∧ d1.sy = d.sy ∧ d1.de = false := by
  unfold Dk.op
  rw [if_neg (by simp [hd]), if_neg (by omega)]
  by_cases h1 : d.ar = true ∧ d.at_ = 0
  · rw [if_pos h1]; exact .inl rfl
  · rw [if_neg h1]
    refine .inr ⟨_, rfl, ?_⟩
    split
    · exact ⟨rfl, rfl, hd⟩
    · exact ⟨rfl, rfl, hd⟩
/-- what the loop keeps: the disk is alive, its bytes are those in y, n of them last -/
def LastsInv (w : World) (g : Nat) (k : Nat) (y last : Value) (wr : World) : Prop :=
  ∃ v d A c, DiskAt wr g v d ∧ d.de = false ∧ y = .slice A d.b.length c ∧ Bs wr y d.b ∧ Off y [g] ∧ last = .int .i64 d.sy ∧ (d.b.length : Int) ≤ 100 * k ∧ Ext w wr

set_option maxHeartbeats 6400000 in
theorem diskLasts_walk (xl : Value) (l : List Opr) (at_ part : Int) (w : World) (hl : Enc.Sl opE w noneAt xl l) (ha : -9223372036854775808 ≤ at_ ∧ at_ ≤ 9223372036854775807) (hp : -9223372036854775808 ≤ part ∧ part ≤ 9223372036854775807) :
    Calls Try.prog 4 #[xl, .int .i64 at_, .int .i64 part] w fun e w' => e = .returned (.bool true) ∧ Ext w w' := by
  replace hl : Enc.Sl opE w (fun k => w.heap.size ≤ k) xl l := hl.mono fun k hk hy => absurd hk (by omega)
  obtain ⟨A, c, rfl, k1, k2⟩ := hl.form
  unfold maxLen at k2
  by_cases hn : (20 : Int) < l.length
  · go_enter Try.func4, Try.ntmps4
    go_wp2_with (go_at_call 12; refine (begun21_b _).mono ?_; rintro e w1 ⟨rfl, hx1⟩)
    go_ret
    exact ⟨rfl, hx1⟩
  · have hn2 : (l.length : Int) ≤ 20 := by omega
    clear hn
    go_enter Try.func4, Try.ntmps4
    go_wp2_with fail
    refine (begun21_b _).mono ?_
    rintro e w1 ⟨rfl, hx1⟩
    go_wp2_with fail
    refine (disk_new _).mono ?_
    rintro e w2 ⟨rfl, rfl⟩
    have hD := new_at w1
    have hx2 := hx1.alloc' (.cells (dcells (.slice none 0 0) Dk.new) 71)
    generalize w1.alloc (.cells (dcells (.slice none 0 0) Dk.new) 71) = w2 at *
    have hg : w.heap.size ≤ w1.heap.size := hx1.size
    generalize w1.heap.size = g at *
    go_wp2_with fail
    refine (disk_arm g _ _ at_ part _ hD ha hp).mono ?_
    rintro e w3 ⟨rfl, v3, h3, hx3, hn3⟩
    have hx13 := hx2.then_ hx3 (by simp; exact hg)
    go_wp2
    go_loopw [8, 9, 10] (fun y last i wr => ∃ k : Nat, (k : Int) ≤ l.length ∧ i = .int .i64 k ∧ LastsInv w g k y last wr) (fun _ _ i _ => (l.length - intOf i).toNat)
    case atStart => exact ⟨0, by omega, rfl, v3, _, none, 0, h3, rfl, rfl, Bs.nil _, Off.nil _ _, rfl, by simp [Dk.arm, Dk.new], hx13⟩
    case round =>
      obtain ⟨k, hk, rfl, v, d, A1, c1, hd, hde, rfl, hy, ho, rfl, hlen, hx⟩ := hrel
      by_cases hlt : (k : Int) < l.length
      · obtain ⟨ad, cs, rfl, hrep, hbk, hcell⟩ := (hl.ext hx).at_ (k := k) (by omega)
        obtain ⟨z, rfl, hk1, hk2, hk3, hz⟩ := opE_cells hrep
        have q0 := Enc.cell0 hcell rfl
        have q1 := Enc.cellS hcell 0 rfl
        have q2 := Enc.cellS hcell 1 rfl
        have q3 := Enc.cellS hcell 2 rfl
        rw [opE_size] at q0 q1 q2 q3
        clear hcell
        generalize l[k] = o at *
        obtain ⟨A2, c2, rfl, -, m2, -⟩ := id hz.1
        unfold maxLen at m2
        by_cases h100 : (100 : Int) < o.b.length
        · go_wp2
          go_ret
          exact ⟨rfl, hx.alloc' _⟩
        · have h100' : (o.b.length : Int) ≤ 100 := by omega
          clear h100
          obtain ⟨R, hR0, hR1, hR2⟩ : ∃ R : Int, o.kind.tmod 11 = R ∧ -10 ≤ R ∧ R ≤ 10 := ⟨_, rfl, by have := Int.lt_tmod_of_pos o.kind (show (0 : Int) < 11 by decide); omega, by have := Int.tmod_lt_of_pos o.kind (show (0 : Int) < 11 by decide); omega⟩
          obtain ⟨K, hK0, hK1, hK2⟩ : ∃ K : Int, (R + 11) % 11 = K ∧ 0 ≤ K ∧ K ≤ 10 := ⟨_, rfl, by omega, by omega⟩
          have hdk : d.ok := hd.ok
          have hs2 := hdk.s2
          have hs1 := hdk.s1
          have hs0 := hdk.s0
          have hgl := hd.blk.lt
          have hL0 := Blk.new wr 37 #[.int .i64 o.kind, .int .i64 o.n, .int .i64 o.part, .slice A2 o.b.length c2]
          have hd0 := hd.box (.cells #[.int .i64 o.kind, .int .i64 o.n, .int .i64 o.part, .slice A2 o.b.length c2] 37)
          have hxl : Ext wr (wr.alloc (.cells #[.int .i64 o.kind, .int .i64 o.n, .int .i64 o.part, .slice A2 o.b.length c2] 37)) := (Ext.rfl' _).alloc' _
          have hyl := hy.ext hxl
          have hzl := hz.1.ext hxl
          have hzo : Off (.slice A2 o.b.length c2) [g] := hz.off (by simp; exact hg)
          have HK := hide hK0
          go_wp2_with fail
          · -- Append
            have hcs := op_cases d (d.b.length + o.b.length) (Dk.app o.b) (Dk.app o.b) hde (by omega)
            have hao := Dk.app_ok hdk o.b (by omega)
            refine (disk_append g v _ d o.b _ hd0 hzl hzo (by omega)).mono ?_
            rintro e W1 hr
            rcases hcs with hcs | ⟨d1, hcs, e1, e2, e3⟩
            · obtain ⟨rfl, v4, h4, hx4, hn4⟩ := hr.at_ hcs
              clear hr hcs
              have hyW := hyl.chg hx4 ho
              have hzW := hzl.chg hx4 hzo
              have hL := hL0.chg hx4 (by simp; omega)
              have hxW := (hx.trans' hxl).then_ hx4 (by simp; exact hg)
              have h4l := Dk.left_bd hao (Dk.app o.b d).pt
              have h4c := Dk.cut_len hao (Dk.app o.b d).pt
              have h4b : (Dk.app o.b d).b = d.b ++ o.b := rfl
              have h4s : (Dk.app o.b d).sy = d.sy := rfl
              have hgW : g < W1.heap.size := Nat.lt_of_lt_of_le hgl (Nat.le_trans hxl.size hx4.size)
              generalize wr.heap.size = gl at *
              go_wp2
              refine Rg.regionT Try.checked.mixed 104 5 (by kernel_rfl) [
                (fun z _ => ∃ A, z = .slice A 0 0),
                (fun x_ _ => x_ = .slice A1 d.b.length c1),
                (fun z W => App W1 W z d.b),
                (fun x_ _ => x_ = .pointer (some ⟨gl, 3, none⟩)),
                (fun x_ _ => x_ = .slice A2 o.b.length c2)] (fun W => Ext W1 W) Ext rfl rfl rfl
                ?st (Ext.rfl' W1).drew' ?ob ?en
              case st => exact ⟨fun _ _ _ h _ => h, fun _ _ _ h _ => h, fun _ _ _ h hx => h.ext hx, fun _ _ _ h _ => h, fun _ _ _ h _ => h, trivial⟩
              case ob =>
                refine ⟨Rg.at_run [] rfl ?_, ?_⟩
                · intro ρ W hR _
                  refine ⟨rfl, ?_⟩
                  exact Rg.run_ok (v := .slice (some ⟨W.heap.size, 0, none⟩) 0 0) (W' := W.alloc (.cells #[] 5)) (by simp [execOp, Rg.ev, go_sem]) ⟨⟨_, rfl⟩, hR.alloc' _, (Ext.rfl' _).alloc' _⟩
                refine ⟨Rg.at_run [8] rfl ?_, ?_⟩
                · intro ρ W hR ⟨q8, _⟩
                  replace q8 : ρ 8 = .slice A1 d.b.length c1 := q8
                  refine ⟨rfl, ?_⟩
                  exact Rg.run_ok (v := .slice A1 d.b.length c1) (by simp [execOp, Rg.ev, go_sem, q8]) ⟨rfl, hR, Ext.rfl' _⟩
                refine ⟨Rg.at_run [50, 51] rfl ?_, ?_⟩
                · intro ρ W hR ⟨q50, q51, _⟩
                  replace q50 : (fun z _ => ∃ A, z = .slice A 0 0) (ρ 50) W := q50
                  replace q51 : ρ 51 = .slice A1 d.b.length c1 := q51
                  refine ⟨rfl, ?_⟩
                  obtain ⟨B, hB⟩ := q50
                  obtain ⟨v', W', hrun, hv, hx2, _⟩ := run_appA W W (ρ 50) [] 22 (.inl ⟨rfl, B, hB⟩) (Ext.rfl' _) (.slice A1 d.b.length c1) d.b (hyW.ext hR) (by simp <;> omega)
                  refine Rg.run_ok (v := v') (W' := W') ?_ ⟨(hv.trans hR), hR.trans' hx2, hx2⟩
                  simp only [execOp, Rg.ev, resolve, invoke, builtin, Sem.run_bind, Sem.run_pure, Result.andThen_ok, List.map_toArray, List.map_cons, List.map_nil, q51, hrun]
                refine ⟨Rg.at_run [11] rfl ?_, ?_⟩
                · intro ρ W hR ⟨q11, _⟩
                  replace q11 : ρ 11 = .pointer (some ⟨gl, 0, none⟩) := q11
                  refine ⟨rfl, ?_⟩
                  exact Rg.run_ok (v := .pointer (some ⟨gl, 3, none⟩)) (by simp [execOp, Rg.ev, go_sem, q11]) ⟨rfl, hR, Ext.rfl' _⟩
                refine ⟨Rg.at_run [53] rfl ?_, ?_⟩
                · intro ρ W hR ⟨q53, _⟩
                  replace q53 : ρ 53 = .pointer (some ⟨gl, 3, none⟩) := q53
                  refine ⟨rfl, ?_⟩
                  have hc : W.cell? ⟨gl, 3, none⟩ = some (.slice A2 o.b.length c2) := ((hL.ext hR).cell 3).trans rfl
                  exact Rg.run_ok (v := .slice A2 o.b.length c2) (by simp [execOp, Rg.ev, go_sem, q53, hc]) ⟨rfl, hR, Ext.rfl' _⟩
                trivial
              case en =>
                intro tm W hR hsz hk
                rw [Rg.fin_eq (ds := [50, 51, 52, 53, 54]) rfl rfl rfl hsz hk]
                have k50 : (fun z _ => ∃ A, z = .slice A 0 0) (tm.getD 50 undef) W := hk 50
                have k51 : tm.getD 51 undef = .slice A1 d.b.length c1 := hk 51
                have k52 : (fun z W => App W1 W z d.b) (tm.getD 52 undef) W := hk 52
                have k53 : tm.getD 53 undef = .pointer (some ⟨gl, 3, none⟩) := hk 53
                have k54 : tm.getD 54 undef = .slice A2 o.b.length c2 := hk 54
                clear hk hsz
                simp only [Rg.putAll, List.setIfInBounds_toArray, List.set_cons_zero, List.set_cons_succ, k51, k53, k54]
                generalize tm.getD 50 undef = u50 at *
                clear k51
                generalize tm.getD 52 undef = u52 at *
                clear k53
                clear k54

                replace k52 : App W1 W u52 d.b := k52
                obtain ⟨A5, c5, rfl⟩ := k52.form
                have hzW2 := hzW.ext hR
                refine wpList_appA W1 _ rfl (.tmp 52) (.tmp 54) rfl _ d.b rfl k52 hR _ o.b rfl hzW2 (by omega) ?_
                intro nb A6 c6 w6 hnb hap hx6 hsm
                go_wp2_with fail
                have h46 := h4.ext hx6
                have hy6 := hap.bs
                have ho6 : Off (.slice A6 nb.length c6) [g] := hap.off (by simp; exact hgW)
                have hnl : nb.length = d.b.length + o.b.length := by rw [hnb.out, List.length_append]
                refine (front_b g v4 _ _ nb d.sy _ h46 rfl hy6 ho6 ?_ ?_ ?_ ⟨by omega, by omega⟩).mono ?_
                · show d.sy ≤ (((Dk.app o.b d).cut (Dk.app o.b d).pt).b.length : Int)
                  omega
                · show (((Dk.app o.b d).cut (Dk.app o.b d).pt).b.length : Int) ≤ _
                  rw [hnl]
                  rw [h4b, List.length_append] at h4l
                  omega
                · rw [hnb.out]; exact Dk.cut_take (Dk.app o.b d) _
                · rintro e w7 ⟨rfl, hx7⟩
                  go_wp2
                  go_ret
                  exact ⟨rfl, (hxW.trans' hx6).then_ hx7 (by simp; exact hg)⟩
            · obtain ⟨rfl, v4, h4, hx4, hn4⟩ := hr.at_ hcs
              clear hr hcs
              have hyW := hyl.chg hx4 ho
              have hzW := hzl.chg hx4 hzo
              have hL := hL0.chg hx4 (by simp; omega)
              have hxW := (hx.trans' hxl).then_ hx4 (by simp; exact hg)
              have hgW : g < W1.heap.size := Nat.lt_of_lt_of_le hgl (Nat.le_trans hxl.size hx4.size)
              generalize wr.heap.size = gl at *
              go_wp2
              refine Rg.regionT Try.checked.mixed 104 5 (by kernel_rfl) [
                (fun z _ => ∃ A, z = .slice A 0 0),
                (fun x_ _ => x_ = .slice A1 d.b.length c1),
                (fun z W => App W1 W z d.b),
                (fun x_ _ => x_ = .pointer (some ⟨gl, 3, none⟩)),
                (fun x_ _ => x_ = .slice A2 o.b.length c2)] (fun W => Ext W1 W) Ext rfl rfl rfl
                ?st (Ext.rfl' W1).drew' ?ob ?en
              case st => exact ⟨fun _ _ _ h _ => h, fun _ _ _ h _ => h, fun _ _ _ h hx => h.ext hx, fun _ _ _ h _ => h, fun _ _ _ h _ => h, trivial⟩
              case ob =>
                refine ⟨Rg.at_run [] rfl ?_, ?_⟩
                · intro ρ W hR _
                  refine ⟨rfl, ?_⟩
                  exact Rg.run_ok (v := .slice (some ⟨W.heap.size, 0, none⟩) 0 0) (W' := W.alloc (.cells #[] 5)) (by simp [execOp, Rg.ev, go_sem]) ⟨⟨_, rfl⟩, hR.alloc' _, (Ext.rfl' _).alloc' _⟩
                refine ⟨Rg.at_run [8] rfl ?_, ?_⟩
                · intro ρ W hR ⟨q8, _⟩
                  replace q8 : ρ 8 = .slice A1 d.b.length c1 := q8
                  refine ⟨rfl, ?_⟩
                  exact Rg.run_ok (v := .slice A1 d.b.length c1) (by simp [execOp, Rg.ev, go_sem, q8]) ⟨rfl, hR, Ext.rfl' _⟩
                refine ⟨Rg.at_run [60, 61] rfl ?_, ?_⟩
                · intro ρ W hR ⟨q60, q61, _⟩
                  replace q60 : (fun z _ => ∃ A, z = .slice A 0 0) (ρ 60) W := q60
                  replace q61 : ρ 61 = .slice A1 d.b.length c1 := q61
                  refine ⟨rfl, ?_⟩
                  obtain ⟨B, hB⟩ := q60
                  obtain ⟨v', W', hrun, hv, hx2, _⟩ := run_appA W W (ρ 60) [] 22 (.inl ⟨rfl, B, hB⟩) (Ext.rfl' _) (.slice A1 d.b.length c1) d.b (hyW.ext hR) (by simp <;> omega)
                  refine Rg.run_ok (v := v') (W' := W') ?_ ⟨(hv.trans hR), hR.trans' hx2, hx2⟩
                  simp only [execOp, Rg.ev, resolve, invoke, builtin, Sem.run_bind, Sem.run_pure, Result.andThen_ok, List.map_toArray, List.map_cons, List.map_nil, q61, hrun]
                refine ⟨Rg.at_run [11] rfl ?_, ?_⟩
                · intro ρ W hR ⟨q11, _⟩
                  replace q11 : ρ 11 = .pointer (some ⟨gl, 0, none⟩) := q11
                  refine ⟨rfl, ?_⟩
                  exact Rg.run_ok (v := .pointer (some ⟨gl, 3, none⟩)) (by simp [execOp, Rg.ev, go_sem, q11]) ⟨rfl, hR, Ext.rfl' _⟩
                refine ⟨Rg.at_run [63] rfl ?_, ?_⟩
                · intro ρ W hR ⟨q63, _⟩
                  replace q63 : ρ 63 = .pointer (some ⟨gl, 3, none⟩) := q63
                  refine ⟨rfl, ?_⟩
                  have hc : W.cell? ⟨gl, 3, none⟩ = some (.slice A2 o.b.length c2) := ((hL.ext hR).cell 3).trans rfl
                  exact Rg.run_ok (v := .slice A2 o.b.length c2) (by simp [execOp, Rg.ev, go_sem, q63, hc]) ⟨rfl, hR, Ext.rfl' _⟩
                trivial
              case en =>
                intro tm W hR hsz hk
                rw [Rg.fin_eq (ds := [60, 61, 62, 63, 64]) rfl rfl rfl hsz hk]
                have k60 : (fun z _ => ∃ A, z = .slice A 0 0) (tm.getD 60 undef) W := hk 60
                have k61 : tm.getD 61 undef = .slice A1 d.b.length c1 := hk 61
                have k62 : (fun z W => App W1 W z d.b) (tm.getD 62 undef) W := hk 62
                have k63 : tm.getD 63 undef = .pointer (some ⟨gl, 3, none⟩) := hk 63
                have k64 : tm.getD 64 undef = .slice A2 o.b.length c2 := hk 64
                clear hk hsz
                simp only [Rg.putAll, List.setIfInBounds_toArray, List.set_cons_zero, List.set_cons_succ, k61, k63, k64]
                generalize tm.getD 60 undef = u60 at *
                clear k61
                generalize tm.getD 62 undef = u62 at *
                clear k63
                clear k64

                replace k62 : App W1 W u62 d.b := k62
                obtain ⟨A5, c5, rfl⟩ := k62.form
                have hzW2 := hzW.ext hR
                refine wpList_appA W1 _ rfl (.tmp 62) (.tmp 64) rfl _ d.b rfl k62 hR _ o.b rfl hzW2 (by omega) ?_
                intro nb A6 c6 w6 hnb hap hx6 hsm
                have hnb' : nb = (Dk.app o.b d1).b := by rw [hnb.out]; simp only [Dk.app, e1]
                subst hnb'
                have ho6 : Off (.slice A6 (Dk.app o.b d1).b.length c6) [g] := hap.off (by simp; exact hgW)
                have hsy : (Dk.app o.b d1).sy = d.sy := e2
                have hln : (Dk.app o.b d1).b.length = d.b.length + o.b.length := by simp only [Dk.app, List.length_append, e1]
                have H1 := hide hln
                have H2 := hide hsy
                clear hln hsy hnb e1 e2
                go_wp2
                refine ⟨⟨k + 1, by omega, by go_num, v4, Dk.app o.b d1, A6, c6, h4.ext hx6, e3, rfl, hap.bs, ho6, by rw [H2.out], by rw [H1.out]; omega, hxW.trans' hx6⟩, by simp [intOf]; omega⟩
          · -- Sync
            have hcs := op_cases d 0 Dk.last id hde (by omega)
            refine (disk_sync g v d _ hd0).mono ?_
            rintro e W1 hr
            rcases hcs with hcs | ⟨d1, hcs, e1, e2, e3⟩
            · obtain ⟨rfl, v4, h4, hx4, hn4⟩ := hr.at_ hcs
              clear hr hcs
              have h4l := Dk.left_bd hdk d.pt
              have h4c := Dk.cut_len hdk d.pt
              go_wp2_with fail
              refine (front_b g v4 _ _ d.b d.sy _ h4 rfl (hyl.chg hx4 ho) ho ?_ ?_ (Dk.cut_take d _) ⟨by omega, by omega⟩).mono ?_
              · show d.sy ≤ ((d.cut d.pt).b.length : Int)
                omega
              · show ((d.cut d.pt).b.length : Int) ≤ _
                omega
              · rintro e w7 ⟨rfl, hx7⟩
                go_wp2
                go_ret
                exact ⟨rfl, ((hx.trans' hxl).then_ hx4 (by simp; exact hg)).then_ hx7 (by simp; exact hg)⟩
            · obtain ⟨rfl, v4, h4, hx4, hn4⟩ := hr.at_ hcs
              clear hr hcs
              have hb1 : (Dk.last d1).b = d.b := e1
              have hsy : (Dk.last d1).sy = d.b.length := by show (d1.b.length : Int) = _; rw [e1]
              have H1 := hide hb1
              have H2 := hide hsy
              clear hb1 hsy e1
              go_wp2
              refine ⟨⟨k + 1, by omega, by go_num, v4, Dk.last d1, A1, c1, h4, e3, by rw [H1.out], by rw [H1.out]; exact hyl.chg hx4 ho, ho, by rw [H2.out], by rw [H1.out]; omega, (hx.trans' hxl).then_ hx4 (by simp; exact hg)⟩, by simp [intOf]; omega⟩
          · -- Replace
            have hcs := op_cases d o.b.length (Dk.repl o.b) id hde (by omega)
            refine (disk_replace g v _ d o.b _ hd0 hzl hzo (by omega)).mono ?_
            rintro e W1 hr
            rcases hcs with hcs | ⟨d1, hcs, e1, e2, e3⟩
            · obtain ⟨rfl, v4, h4, hx4, hn4⟩ := hr.at_ hcs
              clear hr hcs
              have h4l := Dk.left_bd hdk d.pt
              have h4c := Dk.cut_len hdk d.pt
              go_wp2_with fail
              refine (front_b g v4 _ _ d.b d.sy _ h4 rfl (hyl.chg hx4 ho) ho ?_ ?_ (Dk.cut_take d _) ⟨by omega, by omega⟩).mono ?_
              · show d.sy ≤ ((d.cut d.pt).b.length : Int)
                omega
              · show ((d.cut d.pt).b.length : Int) ≤ _
                omega
              · rintro e w7 ⟨rfl, hx7⟩
                go_wp2
                go_ret
                exact ⟨rfl, ((hx.trans' hxl).then_ hx4 (by simp; exact hg)).then_ hx7 (by simp; exact hg)⟩
            · obtain ⟨rfl, v4, h4, hx4, hn4⟩ := hr.at_ hcs
              clear hr hcs
              have hzW := hzl.chg hx4 hzo
              have hL := hL0.chg hx4 (by simp; omega)
              have hxW := (hx.trans' hxl).then_ hx4 (by simp; exact hg)
              have hgW : g < W1.heap.size := Nat.lt_of_lt_of_le hgl (Nat.le_trans hxl.size hx4.size)
              generalize wr.heap.size = gl at *
              go_wp2
              refine Rg.regionT Try.checked.mixed 104 9 (by kernel_rfl) [
                (fun z _ => ∃ A, z = .slice A 0 0),
                (fun x_ _ => x_ = .pointer (some ⟨gl, 3, none⟩)),
                (fun x_ _ => x_ = .slice A2 o.b.length c2),
                (fun z W => App W1 W z o.b),
                (fun x_ _ => x_ = .pointer (some ⟨gl, 3, none⟩)),
                (fun x_ _ => x_ = .slice A2 o.b.length c2),
                (fun x_ _ => x_ = .int .i64 o.b.length),
                (fun z W => App W1 W z o.b),
                (fun x_ _ => x_ = .int .i64 o.b.length)] (fun W => Ext W1 W) Ext rfl rfl rfl
                ?st (Ext.rfl' W1).drew' ?ob ?en
              case st => exact ⟨fun _ _ _ h _ => h, fun _ _ _ h _ => h, fun _ _ _ h _ => h, fun _ _ _ h hx => h.ext hx, fun _ _ _ h _ => h, fun _ _ _ h _ => h, fun _ _ _ h _ => h, fun _ _ _ h hx => h.ext hx, fun _ _ _ h _ => h, trivial⟩
              case ob =>
                refine ⟨Rg.at_run [] rfl ?_, ?_⟩
                · intro ρ W hR _
                  refine ⟨rfl, ?_⟩
                  exact Rg.run_ok (v := .slice (some ⟨W.heap.size, 0, none⟩) 0 0) (W' := W.alloc (.cells #[] 5)) (by simp [execOp, Rg.ev, go_sem]) ⟨⟨_, rfl⟩, hR.alloc' _, (Ext.rfl' _).alloc' _⟩
                refine ⟨Rg.at_run [11] rfl ?_, ?_⟩
                · intro ρ W hR ⟨q11, _⟩
                  replace q11 : ρ 11 = .pointer (some ⟨gl, 0, none⟩) := q11
                  refine ⟨rfl, ?_⟩
                  exact Rg.run_ok (v := .pointer (some ⟨gl, 3, none⟩)) (by simp [execOp, Rg.ev, go_sem, q11]) ⟨rfl, hR, Ext.rfl' _⟩
                refine ⟨Rg.at_run [91] rfl ?_, ?_⟩
                · intro ρ W hR ⟨q91, _⟩
                  replace q91 : ρ 91 = .pointer (some ⟨gl, 3, none⟩) := q91
                  refine ⟨rfl, ?_⟩
                  have hc : W.cell? ⟨gl, 3, none⟩ = some (.slice A2 o.b.length c2) := ((hL.ext hR).cell 3).trans rfl
                  exact Rg.run_ok (v := .slice A2 o.b.length c2) (by simp [execOp, Rg.ev, go_sem, q91, hc]) ⟨rfl, hR, Ext.rfl' _⟩
                refine ⟨Rg.at_run [90, 92] rfl ?_, ?_⟩
                · intro ρ W hR ⟨q90, q92, _⟩
                  replace q90 : (fun z _ => ∃ A, z = .slice A 0 0) (ρ 90) W := q90
                  replace q92 : ρ 92 = .slice A2 o.b.length c2 := q92
                  refine ⟨rfl, ?_⟩
                  obtain ⟨B, hB⟩ := q90
                  obtain ⟨v', W', hrun, hv, hx2, _⟩ := run_appA W W (ρ 90) [] 22 (.inl ⟨rfl, B, hB⟩) (Ext.rfl' _) (.slice A2 o.b.length c2) o.b (hzW.ext hR) (by simp <;> omega)
                  refine Rg.run_ok (v := v') (W' := W') ?_ ⟨(hv.trans hR), hR.trans' hx2, hx2⟩
                  simp only [execOp, Rg.ev, resolve, invoke, builtin, Sem.run_bind, Sem.run_pure, Result.andThen_ok, List.map_toArray, List.map_cons, List.map_nil, q92, hrun]
                refine ⟨Rg.at_run [11] rfl ?_, ?_⟩
                · intro ρ W hR ⟨q11, _⟩
                  replace q11 : ρ 11 = .pointer (some ⟨gl, 0, none⟩) := q11
                  refine ⟨rfl, ?_⟩
                  exact Rg.run_ok (v := .pointer (some ⟨gl, 3, none⟩)) (by simp [execOp, Rg.ev, go_sem, q11]) ⟨rfl, hR, Ext.rfl' _⟩
                refine ⟨Rg.at_run [94] rfl ?_, ?_⟩
                · intro ρ W hR ⟨q94, _⟩
                  replace q94 : ρ 94 = .pointer (some ⟨gl, 3, none⟩) := q94
                  refine ⟨rfl, ?_⟩
                  have hc : W.cell? ⟨gl, 3, none⟩ = some (.slice A2 o.b.length c2) := ((hL.ext hR).cell 3).trans rfl
                  exact Rg.run_ok (v := .slice A2 o.b.length c2) (by simp [execOp, Rg.ev, go_sem, q94, hc]) ⟨rfl, hR, Ext.rfl' _⟩
                refine ⟨Rg.at_run [95] rfl ?_, ?_⟩
                · intro ρ W hR ⟨q95, _⟩
                  replace q95 : ρ 95 = .slice A2 o.b.length c2 := q95
                  refine ⟨rfl, ?_⟩
                  exact Rg.run_ok (v := .int .i64 o.b.length) (by simp [execOp, Rg.ev, go_sem, q95]) ⟨rfl, hR, Ext.rfl' _⟩
                refine ⟨Rg.at_run [93] rfl ?_, ?_⟩
                · intro ρ W hR ⟨q93, _⟩
                  replace q93 : (fun z W => App W1 W z o.b) (ρ 93) W := q93
                  refine ⟨rfl, ?_⟩
                  exact Rg.run_ok (by simp [execOp, Rg.ev, go_sem] <;> rfl) ⟨q93, hR, Ext.rfl' _⟩
                refine ⟨Rg.at_run [96] rfl ?_, ?_⟩
                · intro ρ W hR ⟨q96, _⟩
                  replace q96 : ρ 96 = .int .i64 o.b.length := q96
                  refine ⟨rfl, ?_⟩
                  exact Rg.run_ok (v := .int .i64 o.b.length) (by simp [execOp, Rg.ev, go_sem, q96]) ⟨rfl, hR, Ext.rfl' _⟩
                trivial
              case en =>
                intro tm W hR hsz hk
                rw [Rg.fin_eq (ds := [90, 91, 92, 93, 94, 95, 96, 8, 9]) rfl rfl rfl hsz hk]
                have k8 : (fun z W => App W1 W z o.b) (tm.getD 8 undef) W := hk 8
                have k9 : tm.getD 9 undef = .int .i64 o.b.length := hk 9
                have k90 : (fun z _ => ∃ A, z = .slice A 0 0) (tm.getD 90 undef) W := hk 90
                have k91 : tm.getD 91 undef = .pointer (some ⟨gl, 3, none⟩) := hk 91
                have k92 : tm.getD 92 undef = .slice A2 o.b.length c2 := hk 92
                have k93 : (fun z W => App W1 W z o.b) (tm.getD 93 undef) W := hk 93
                have k94 : tm.getD 94 undef = .pointer (some ⟨gl, 3, none⟩) := hk 94
                have k95 : tm.getD 95 undef = .slice A2 o.b.length c2 := hk 95
                have k96 : tm.getD 96 undef = .int .i64 o.b.length := hk 96
                clear hk hsz
                simp only [Rg.putAll, List.setIfInBounds_toArray, List.set_cons_zero, List.set_cons_succ, k9, k91, k92, k94, k95, k96]
                generalize tm.getD 8 undef = u8 at *
                clear k9
                generalize tm.getD 90 undef = u90 at *
                clear k91
                clear k92
                generalize tm.getD 93 undef = u93 at *
                clear k94
                clear k95
                clear k96
                refine Rg.nil_list ?_

                replace k8 : App W1 W u8 o.b := k8
                obtain ⟨A5, c5, rfl⟩ := k8.form
                have ho6 : Off (.slice A5 o.b.length c5) [g] := k8.off (by simp; exact hgW)
                go_wp2
                refine ⟨⟨k + 1, by omega, by go_num, v4, Dk.repl o.b d1, A5, c5, h4.ext hR, e3, rfl, k8.bs, ho6, rfl, by show (o.b.length : Int) ≤ _; omega, hxW.trans' hR⟩, by simp [intOf]; omega⟩
          · refine ⟨⟨k + 1, by omega, by go_num, v, d, A1, c1, hd0, hde, rfl, hyl, ho, rfl, by omega, hx.trans' hxl⟩, by simp [intOf]; omega⟩
      · obtain rfl : k = l.length := by omega
        have hp2 := (Dk.crash_ok hd.ok part)
        have hb1 := Dk.left_bd hd.ok part
        have hb2 := Dk.cut_len hd.ok part
        have hs1 := hd.ok.s2
        have hs0 := hd.ok.s0
        go_wp2_with fail
        refine (disk_crash g v d part _ hd hp).mono ?_
        rintro e w4 ⟨rfl, v4, h4, hx4, hn4⟩
        go_wp2_with fail
        refine (front_b g v4 _ (d.crash part) d.b d.sy _ h4 rfl (hy.chg hx4 ho) ho (by show _ ≤ ((d.cut part).b.length : Int); omega) (by show ((d.cut part).b.length : Int) ≤ _; omega) (by show d.b.take (d.cut part).b.length = (d.cut part).b; simp only [Dk.cut, List.length_take]; rw [← List.take_take]; simp) ⟨by omega, by omega⟩).mono ?_
        rintro e w5 ⟨rfl, hx5⟩
        go_wp2
        go_ret
        exact ⟨rfl, (hx.then_ hx4 (by simp; exact hg)).then_ hx5 (by simp; exact hg)⟩
end Go.Proofs.Ytlhokicnedkieaa
