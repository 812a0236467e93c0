/- DiskAll: what the law itself does. -/
import Derived.Test.YtlhokicnedkieaaDiskDo2
namespace Go.Proofs.Ytlhokicnedkieaa
set_option linter.unusedVariables false
set_option linter.unusedSimpArgs false
set_option linter.unnecessarySimpa false
set_option maxRecDepth 100000
open Go.RowKit
set_option maxHeartbeats 1600000 in
theorem none_append (w : World) : Calls Try.prog 14 #[.pointer none, .slice none 0 0] w fun e w' => e = .returned (.int .i64 1) ∧ Ext w w' := by
  have h1 : Blk ((w.alloc (.cells #[.pointer none] 24)).alloc (.cells #[.slice none 0 0] 22)) w.heap.size 24 #[.pointer none] := (Blk.new w _ _).alloc _
  have h2 : Blk ((w.alloc (.cells #[.pointer none] 24)).alloc (.cells #[.slice none 0 0] 22)) (w.heap.size + 1) 22 #[.slice none 0 0] := by
    have := Blk.new (w.alloc (.cells #[.pointer none] 24)) 22 #[.slice none 0 0]
    simpa using this
  have hx0 : Ext w ((w.alloc (.cells #[.pointer none] 24)).alloc (.cells #[.slice none 0 0] 22)) := ((Ext.rfl' w).alloc' _).alloc' _
  go_enter Try.func14, Try.ntmps14
  go_wp2
  generalize (w.alloc (.cells #[.pointer none] 24)).alloc (.cells #[.slice none 0 0] 22) = w0 at *
  refine Rg.regionT Try.checked.mixed 16 8 (by kernel_rfl) [
    (fun x_ _ => x_ = .pointer none),
    (fun x_ _ => x_ = .pointer none),
    (fun x_ _ => x_ = .int .i64 0),
    (fun x_ _ => x_ = .slice none 0 0),
    (fun x_ _ => x_ = .int .i64 0),
    (fun x_ _ => x_ = .int .i64 0),
    (fun x_ _ => x_ = .func (.func 37) #[] #[.pointer (some ⟨w.heap.size, 0, none⟩), .pointer (some ⟨w.heap.size + 1, 0, none⟩)]),
    (fun x_ _ => x_ = .func (.func 37) #[] #[.pointer (some ⟨w.heap.size, 0, none⟩), .pointer (some ⟨w.heap.size + 1, 0, none⟩)])] (fun W => Ext w0 W) Ext rfl rfl rfl
    ?st (Ext.rfl' w0).drew' ?ob ?en
  case st => exact ⟨fun _ _ _ h _ => h, fun _ _ _ h _ => h, fun _ _ _ h _ => h, fun _ _ _ h _ => h, fun _ _ _ h _ => h, fun _ _ _ h _ => h, fun _ _ _ h _ => h, fun _ _ _ h _ => h, trivial⟩
  case ob =>
    refine ⟨Rg.at_run [2] rfl ?_, ?_⟩
    · intro ρ W hR ⟨q2, _⟩
      replace q2 : ρ 2 = .pointer (some ⟨w.heap.size, 0, none⟩) := q2
      refine ⟨rfl, ?_⟩
      have hc := cell_box (h1.ext hR)
      exact Rg.run_ok (v := .pointer none) (by simp [execOp, Rg.ev, go_sem, q2, hc]) ⟨rfl, hR, Ext.rfl' _⟩
    refine ⟨Rg.at_run [2] rfl ?_, ?_⟩
    · intro ρ W hR ⟨q2, _⟩
      replace q2 : ρ 2 = .pointer (some ⟨w.heap.size, 0, none⟩) := q2
      refine ⟨rfl, ?_⟩
      have hc := cell_box (h1.ext hR)
      exact Rg.run_ok (v := .pointer none) (by simp [execOp, Rg.ev, go_sem, q2, hc]) ⟨rfl, hR, Ext.rfl' _⟩
    refine ⟨Rg.at_run [8] rfl ?_, ?_⟩
    · intro ρ W hR ⟨q8, _⟩
      replace q8 : ρ 8 = .pointer none := q8
      refine ⟨rfl, ?_⟩
      refine Rg.run_enter (by simp [execOp, Rg.ev, go_sem, q8]; exact ⟨⟨rfl, rfl⟩, rfl⟩) ?_
      refine (none_size _).mono ?_
      rintro e w2 ⟨rfl, rfl⟩
      exact ⟨_, rfl, rfl, hR, Ext.rfl' _⟩
    refine ⟨Rg.at_run [3] rfl ?_, ?_⟩
    · intro ρ W hR ⟨q3, _⟩
      replace q3 : ρ 3 = .pointer (some ⟨w.heap.size + 1, 0, none⟩) := q3
      refine ⟨rfl, ?_⟩
      have hc := cell_box (h2.ext hR)
      exact Rg.run_ok (v := .slice none 0 0) (by simp [execOp, Rg.ev, go_sem, q3, hc]) ⟨rfl, hR, Ext.rfl' _⟩
    refine ⟨Rg.at_run [10] rfl ?_, ?_⟩
    · intro ρ W hR ⟨q10, _⟩
      replace q10 : ρ 10 = .slice none 0 0 := q10
      refine ⟨rfl, ?_⟩
      exact Rg.run_ok (v := .int .i64 0) (by simp [execOp, Rg.ev, go_sem, q10]) ⟨rfl, hR, Ext.rfl' _⟩
    refine ⟨Rg.at_run [9, 11] rfl ?_, ?_⟩
    · intro ρ W hR ⟨q9, q11, _⟩
      replace q9 : ρ 9 = .int .i64 0 := q9
      replace q11 : ρ 11 = .int .i64 0 := q11
      refine ⟨rfl, ?_⟩
      have hw := IntWalk.i64_in 0 (by omega)
      exact Rg.run_ok (v := .int .i64 0) (by simp [execOp, Rg.ev, go_sem, q9, q11, hw]) ⟨rfl, hR, Ext.rfl' _⟩
    refine ⟨Rg.at_run [5] rfl ?_, ?_⟩
    · intro ρ W hR ⟨q5, _⟩
      replace q5 : ρ 5 = .func (.func 37) #[] #[.pointer (some ⟨w.heap.size, 0, none⟩), .pointer (some ⟨w.heap.size + 1, 0, none⟩)] := q5
      refine ⟨rfl, ?_⟩
      exact Rg.run_ok (v := .func (.func 37) #[] #[.pointer (some ⟨w.heap.size, 0, none⟩), .pointer (some ⟨w.heap.size + 1, 0, none⟩)]) (by simp [execOp, Rg.ev, go_sem, q5]) ⟨rfl, hR, Ext.rfl' _⟩
    refine ⟨Rg.at_run [5] rfl ?_, ?_⟩
    · intro ρ W hR ⟨q5, _⟩
      replace q5 : ρ 5 = .func (.func 37) #[] #[.pointer (some ⟨w.heap.size, 0, none⟩), .pointer (some ⟨w.heap.size + 1, 0, none⟩)] := q5
      refine ⟨rfl, ?_⟩
      exact Rg.run_ok (v := .func (.func 37) #[] #[.pointer (some ⟨w.heap.size, 0, none⟩), .pointer (some ⟨w.heap.size + 1, 0, none⟩)]) (by simp [execOp, Rg.ev, go_sem, q5]) ⟨rfl, hR, Ext.rfl' _⟩
    trivial
  case en =>
    intro tm W hR hsz hk
    rw [Rg.fin_eq (ds := [7, 8, 9, 10, 11, 12, 13, 14]) rfl rfl rfl hsz hk]
    have k7 : tm.getD 7 undef = .pointer none := hk 7
    have k8 : tm.getD 8 undef = .pointer none := hk 8
    have k9 : tm.getD 9 undef = .int .i64 0 := hk 9
    have k10 : tm.getD 10 undef = .slice none 0 0 := hk 10
    have k11 : tm.getD 11 undef = .int .i64 0 := hk 11
    have k12 : tm.getD 12 undef = .int .i64 0 := hk 12
    have k13 : tm.getD 13 undef = .func (.func 37) #[] #[.pointer (some ⟨w.heap.size, 0, none⟩), .pointer (some ⟨w.heap.size + 1, 0, none⟩)] := hk 13
    have k14 : tm.getD 14 undef = .func (.func 37) #[] #[.pointer (some ⟨w.heap.size, 0, none⟩), .pointer (some ⟨w.heap.size + 1, 0, none⟩)] := hk 14
    clear hk hsz
    simp only [Rg.putAll, List.setIfInBounds_toArray, List.set_cons_zero, List.set_cons_succ, k7, k8, k9, k10, k11, k12, k13, k14]
    clear k7
    clear k8
    clear k9
    clear k10
    clear k11
    clear k12
    clear k13
    clear k14

    go_wp2_with fail
    refine (none_writes _ _ _ _).mono ?_
    rintro e w1 ⟨rfl, rfl⟩
    go_wp2
    go_ret
    exact ⟨rfl, hx0.trans' hR⟩
set_option maxHeartbeats 3200000 in
theorem same21_b (g g2 : Nat) (v v2 : Value) (d r : Dk) (w : World) (h : Two w g g2 v v2 d r) :
    Calls Try.prog 26 #[.pointer (some ⟨g, 0, none⟩), .pointer (some ⟨g2, 0, none⟩)] w fun e w' => e = .returned (.bool true) ∧ Two w' g g2 v v2 d r ∧ Ext w w' := by
  obtain ⟨A2, c2, rfl, -, -, -⟩ := id h.ref.bs
  obtain ⟨c0, c1, -, -, -, c5⟩ := h.ref.cells
  by_cases hd : d.de = true
  · have hr : r.de = true := by rw [← h.eqv.de]; exact hd
    have X := disk_dead g v d w h.at_
    rw [hd] at X
    have X2 := hide X
    have X3 := hide (disk_read_dead g v d w h.at_ hd)
    rw [hr] at c5
    clear hd hr X
    go_enter Try.func26, Try.ntmps26
    go_wp2_with fail
    refine X3.out.mono ?_
    rintro e w1 ⟨rfl, rfl⟩
    go_wp2_with fail
    refine X2.out.mono ?_
    rintro e w1 ⟨rfl, rfl⟩
    go_wp2
    go_ret
    exact ⟨rfl, h, Ext.rfl' _⟩
  · have hd' : d.de = false := by simpa using hd
    have hr : r.de = false := by rw [← h.eqv.de]; exact hd'
    have X3 := hide (disk_read g v d w h.at_ hd')
    have hrb := h.ref.bs
    have e1 := h.eqv.b
    have e2 := h.eqv.sy
    rw [← e1] at hrb
    rw [← e2] at c1
    rw [← e1] at c0
    have HD := hide hd'
    rw [hr] at c5
    have E1 := hide e1
    have E2 := hide e2
    clear hd hd' hr e1 e2
    go_enter Try.func26, Try.ntmps26
    go_wp2_with fail
    refine X3.out.mono ?_
    rintro e w1 ⟨x, rfl, hx, hx1⟩
    have hrl := h.ref.blk.lt
    have c0' := (hx1.cell (p := ⟨g2, 0, none⟩) hrl).trans c0
    have c1' := (hx1.cell (p := ⟨g2, 1, none⟩) hrl).trans c1
    have c5' := (hx1.cell (p := ⟨g2, 5, none⟩) hrl).trans c5
    have h1 := h.ext hx1
    have hxo := hx
    obtain ⟨A, c, rfl, -, -⟩ := own_slice (id hx)
    have st := fun {v : Value} {l : Bytes} (h : Bs w1 v l) (n : Nat) => run_str (P := Try.prog) (w := w1.drewN n) h Try.underlying22 Try.underlying5 Try.underlying9
    have s1 := st hx.bs
    have s2 := st (hrb.ext hx1)
    clear st c0 c1 c5
    have X := fun n => disk_dead g v d (w1.drewN n) (h1.at_.drewN_ n)
    simp only [HD.out] at X
    have X5 := hide X
    clear X
    go_wp2
    go_quiet (first | (go_at_call 21; exact Calls.quiet_of_same ((X5.out _).mono fun _ _ h => ⟨h.1, h.2.symm⟩)) | (go_at_call 17; exact Calls.quiet_of_same ((disk_synced g v d _ (h1.at_.drewN_ _)).mono fun _ _ h => ⟨h.1, h.2.symm⟩)))
    go_wp2_with fail
    have hxn : Nw w (w1.drewN nq) (.slice A d.b.length c) d.b := hx
    refine (spoil_nw _ _ _ _ hxn).mono ?_
    rintro e w2 ⟨rfl, S, hc2, hS⟩
    have hSn : ∀ k, k ∈ S → w.heap.size ≤ k := fun k hk => (hx.lt k (hS k hk)).1
    have hgl := h.at_.blk.lt
    have h1n : Two (w1.drewN nq) g g2 v (.slice A2 r.b.length c2) d r := h1.ext ((Ext.rfl' _).drewN' nq)
    have h2 := h1n.chg hc2 fun k hk => by
      have h9 := hSn k hk
      exact ⟨by omega, by omega, fun e => by have := (h.own k e).1; omega, fun e => by have := (h.own2 k e).1; omega⟩
    go_wp2
    go_ret
    exact ⟨rfl, h2, (hx1.drewN' nq).then_ hc2 hSn⟩
/-- what the loop keeps -/
def AllInv (w : World) (g2 : Nat) (dp : Value) (wr : World) : Prop := ∃ g v v2 d r, dp = .pointer (some ⟨g, 0, none⟩) ∧ Two wr g g2 v v2 d r ∧ w.heap.size ≤ g ∧ Ext w wr
theorem rem_nonneg (k : Int) : ∃ R : Int, k.tmod 11 = R ∧ -10 ≤ R ∧ R ≤ 10 := ⟨_, rfl, by have := Int.lt_tmod_of_pos k (show (0 : Int) < 11 by decide); omega, by have := Int.tmod_lt_of_pos k (show (0 : Int) < 11 by decide); omega⟩
set_option maxHeartbeats 6400000 in
theorem diskAll_walk (xl : Value) (l : List Opr) (w : World) (hl : Enc.Sl opE w noneAt xl l) :
    Calls Try.prog 6 #[xl] w fun e w' => e = .returned (.bool true) ∧ Ext w w' := by
  have kc := fun (w : World) (C : Array Value) (n c : Nat) => Lib.run_convert_bytes_const (P := Try.prog) w 22 5 C n c Try.underlying22 Try.underlying5
  replace hl : Enc.Sl opE w (fun k => w.heap.size ≤ k) xl l := hl.mono fun k hk hy => absurd hk (by omega)
  obtain ⟨A, c, rfl, k1, k2⟩ := hl.form
  unfold maxLen at k2
  by_cases hn : (40 : Int) < l.length
  · go_enter Try.func6, Try.ntmps6
    go_wp2_with (go_at_call 12; refine (begun21_b _).mono ?_; rintro e w1 ⟨rfl, hx1⟩)
    go_ret
    exact ⟨rfl, hx1⟩
  · have hn2 : (l.length : Int) ≤ 40 := by omega
    clear hn
    go_enter Try.func6, Try.ntmps6
    go_wp2_with fail
    refine (begun21_b _).mono ?_
    rintro e w1 ⟨rfl, hx1⟩
    go_wp2_with fail
    refine (disk_new _).mono ?_
    rintro e w2 ⟨rfl, rfl⟩
    have hD := new_at w1
    have hx2 := hx1.alloc' (.cells (dcells (.slice none 0 0) Dk.new) 71)
    have hs12 : w1.heap.size < (w1.alloc (.cells (dcells (.slice none 0 0) Dk.new) 71)).heap.size := by simp
    generalize w1.alloc (.cells (dcells (.slice none 0 0) Dk.new) 71) = w2 at *
    have hg : w.heap.size ≤ w1.heap.size := hx1.size
    generalize w1.heap.size = g at *
    go_wp2_with fail
    have hD2 := hD.ext ((Ext.rfl' w2).alloc' (.cells (rcells (.slice none 0 0) Dk.new) 42))
    have hR2 : RefAt (w2.alloc (.cells (rcells (.slice none 0 0) Dk.new) 42)) w2.heap.size (.slice none 0 0) Dk.new := ⟨Blk.new w2 _ _, Bs.nil _, Off.nil _ _, Dk.new_ok⟩
    have hT2 : Two (w2.alloc (.cells (rcells (.slice none 0 0) Dk.new) 42)) g w2.heap.size (.slice none 0 0) (.slice none 0 0) Dk.new Dk.new :=
      ⟨hD2, hR2, by omega, (fun k hk => by cases hk), (fun k hk => by cases hk), ⟨rfl, rfl, rfl, rfl, rfl, fun _ => rfl⟩⟩
    have hx3 := hx2.alloc' (.cells (rcells (.slice none 0 0) Dk.new) 42)
    have hg2w : w.heap.size ≤ w2.heap.size := hx2.size
    clear hD hD2 hR2
    have HT2 := hide hT2
    clear hT2
    generalize hg2 : w2.heap.size = g2 at *
    have HG2 := hide hg2
    clear hg2
    go_loopw [3, 5] (fun dp i wr => ∃ k : Nat, (k : Int) ≤ l.length ∧ i = .int .i64 k ∧ AllInv w g2 dp wr) (fun _ i _ => (l.length - intOf i).toNat)
    case atStart => exact ⟨0, by omega, rfl, g, _, _, _, _, rfl, HT2.out, hg, hx3⟩
    case round =>
      obtain ⟨k, hk, rfl, g, v, v2, d, r, rfl, hT, hg, hx⟩ := hrel
      by_cases hlt : (k : Int) < l.length
      · obtain ⟨ad, cs, rfl, hrep, hbk, hcell⟩ := hl.at_ (k := k) (by omega)
        obtain ⟨z, rfl, hk1, hk2, hk3, hz⟩ := opE_cells hrep
        have p0 := Enc.cell0 hcell rfl
        have p1 := Enc.cellS hcell 0 rfl
        have p2 := Enc.cellS hcell 1 rfl
        have p3 := Enc.cellS hcell 2 rfl
        rw [opE_size] at p0 p1 p2 p3
        generalize l[k] = o at *
        have hbk' : (ad.add (k * 4)).block < w.heap.size := by rw [block_of_add]; exact hbk
        have P0 := hide p0
        have P1 := hide p1
        have P2 := hide p2
        have P3 := hide p3
        clear hcell p0 p1 p2 p3
        have q0 := (hx.cell hbk').trans P0.out
        have q1 := (hx.cell (p := ⟨(ad.add (k * 4)).block, (ad.add (k * 4)).off + (0 + 1), none⟩) hbk').trans P1.out
        have q2 := (hx.cell (p := ⟨(ad.add (k * 4)).block, (ad.add (k * 4)).off + (1 + 1), none⟩) hbk').trans P2.out
        have q3 := (hx.cell (p := ⟨(ad.add (k * 4)).block, (ad.add (k * 4)).off + (2 + 1), none⟩) hbk').trans P3.out
        obtain ⟨A2, c2, rfl, -, m2, -⟩ := id hz.1
        unfold maxLen at m2
        by_cases h100 : (100 : Int) < o.b.length
        · go_wp2
          go_ret
          exact ⟨rfl, hx⟩
        · have h100' : (o.b.length : Int) ≤ 100 := by omega
          clear h100
          have hgr := hT.at_.blk.lt
          have hws := hx.size
          go_wp2_with fail
          refine (do_b g g2 v v2 _ d r o wr hT (hz.1.ext hx) (fun S hS => hz.off fun k hk => by have := hS k hk; omega) h100' hk1 hk2 hk3).mono ?_
          rintro e W1 ⟨rfl, v3, v4, d3, r3, hT3, hc3⟩
          have hx3' := hx.then_ hc3 (by simp; omega)
          go_wp2_with fail
          refine (same21_b g g2 v3 v4 d3 r3 W1 hT3).mono ?_
          rintro e W2 ⟨rfl, hT4, hx4⟩
          have hx5 := hx3'.trans' hx4
          have r0 := (hx5.cell hbk').trans P0.out
          clear q0 q1 q2 q3
          obtain ⟨R, hR0, hR1, hR2⟩ := rem_nonneg o.kind
          obtain ⟨K, hK0, hK1, hK2⟩ : ∃ K : Int, (R + 11) % 11 = K ∧ 0 ≤ K ∧ K ≤ 10 := ⟨_, rfl, by omega, by omega⟩
          have HK := hide hK0
          have HR := hide hR0
          by_cases hK10 : K = 10
          · have hKb : (K == 10) = true := by simpa using hK10
            clear hK10
            go_wp2_with fail
            refine (disk_copy g v3 d3 W2 hT4.at_).mono ?_
            rintro e W3 ⟨g', v5, rfl, hg', h5, hn5, hx6⟩
            have hT5 := hT4.ext hx6
            have hg3 := hT5.at_.blk.lt
            have hg4 := hT4.at_.blk.lt
            have hg5 := hT4.ref.blk.lt
            go_wp2_with fail
            refine Calls.mono (disk_append g v3 _ d3 [115, 112, 111, 105, 108, 116] _ (hT5.at_.box _) (lit_fr [115, 112, 111, 105, 108, 116] _ _ 6 _ (by rfl) (by rfl) (by rfl) (by simp [maxLen])) (.of_own fun k hk => by simp [Value.ownBlock] at hk; subst hk; simp; omega) (by decide)) ?_
            rintro e W4 ⟨rfl, v6, h6, hc6, hn6⟩
            go_wp2_with fail
            refine (disk_crash g v6 _ 0 W4 h6 (by decide)).mono ?_
            rintro e W5 ⟨rfl, v7, h7, hc7, hn7⟩
            have hc57 : Chg [g] W3 W5 := ((((Ext.rfl' W3).alloc' _).chg [g]).trans hc6).trans hc7
            have hs57 := hc57.size
            have hs36 := hx6.size
            have hT7 : Two W5 g' g2 v5 v4 d3 r3 :=
              ⟨h5.chg hc57 (by simp; omega) (.of_own fun k hk => by have := hn5 k hk; simp; omega), hT5.ref.chg hc57 (by simp; exact fun e => hT4.ne e.symm) hT5.off2, by omega, (fun k hk => by have := hn5 k hk; omega), (fun k hk => by have := hT4.own2 k hk; omega), hT4.eqv⟩
            have hx7 := (hx5.trans' hx6).then_ hc57 (by simp; omega)
            go_wp2
            exact ⟨⟨k + 1, by omega, by go_num, g', v5, v4, d3, r3, rfl, hT7, by omega, hx7⟩, by simp [intOf]; omega⟩
          · have hKb : (K == 10) = false := by simpa using hK10
            clear hK10
            go_wp2
            exact ⟨⟨k + 1, by omega, by go_num, g, v3, v4, d3, r3, rfl, hT4, hg, hx5⟩, by simp [intOf]; omega⟩
      · obtain rfl : k = l.length := by omega
        go_wp2_with fail
        refine (none_arm _ _ _).mono ?_
        rintro e W1 ⟨rfl, rfl⟩
        go_wp2_with fail
        refine (none_crash _ _).mono ?_
        rintro e W1 ⟨rfl, rfl⟩
        go_wp2_with fail
        refine (none_power _).mono ?_
        rintro e W1 ⟨rfl, rfl⟩
        go_wp2_with fail
        refine (none_read _).mono ?_
        rintro e W1 ⟨rfl, rfl⟩
        go_wp2_with fail
        refine (none_append _).mono ?_
        rintro e W1 ⟨rfl, hy1⟩
        go_wp2_with fail
        refine (none_sync _).mono ?_
        rintro e W2 ⟨rfl, hy2⟩
        go_wp2_with fail
        refine (none_replace _).mono ?_
        rintro e W3 ⟨rfl, hy3⟩
        go_wp2_with fail
        refine (none_synced _).mono ?_
        rintro e W4 ⟨rfl, rfl⟩
        go_wp2_with fail
        refine (none_copy _).mono ?_
        rintro e W4 ⟨rfl, rfl⟩
        go_wp2
        go_ret
        exact ⟨rfl, ((hx.trans' hy1).trans' hy2).trans' hy3⟩
end Go.Proofs.Ytlhokicnedkieaa
