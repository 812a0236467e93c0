/- A part of the proof of 'MsgAll'. -/
import Derived.Test.YtlblgopfdadalaaM14
import Derived.Test.YtlblgopfdadalaaM23
import Derived.BigGuardPart
namespace Go.Proofs.Ytlblgopfdadalaa
set_option linter.unusedVariables false
set_option linter.unusedSimpArgs false
set_option linter.unnecessarySimpa false
set_option maxRecDepth 100000
open Go.RowKit
set_option maxHeartbeats 12800000 in
theorem rsameMsg_b (m n : Mg) (ve vs ue us : Value) (w : World) (h1 : Enc.Sl enE w noneAt ve m.ents) (h2 : Bs w vs m.snap.state) (h3 : Enc.Sl enE w noneAt ue n.ents) (h4 : Bs w us n.snap.state) :
    Calls Try.prog 12 #[.agg (mgcells m ve vs).toArray, .agg (mgcells n ue us).toArray] w fun e w' => RetIs (m = n) w w' e := by
  obtain ⟨mk, mf, mt, m3, m4, m5, me, m6, m7, mo, ⟨m8, m9, ms⟩, mc, ma⟩ := m
  obtain ⟨nk, nf, nt, n3, n4, n5, ne, n6, n7, no, ⟨n8, n9, ns⟩, nc, na⟩ := n
  simp only at h1 h2 h3 h4
  obtain ⟨Ae, ce, rfl, -, -⟩ := h1.form
  obtain ⟨As, cs, rfl, -, -, -⟩ := id h2
  obtain ⟨Be, de, rfl, -, -⟩ := h3.form
  obtain ⟨Bt, ds, rfl, -, -, -⟩ := id h4
  obtain ⟨rc, hrc, hcr⟩ := eq_cmd mc nc
  obtain ⟨ra, hra, har⟩ := eq_ans ma na
  have HRC := hide hrc
  have HRA := hide hra
  clear hrc hra
  unfold cv ccells at hcr
  simp only [acells] at har
  go_enter Try.func12, Try.ntmps12
  repeat (first | with_reducible refine two_stop ?_ | go_step)
  intro W g hg hA hB hx
  have HE := hide (fun (V : World) (hy : Ext W V) => sameEntriesG_b _ _ _ _ V ((h1.ext hx).ext hy) ((h3.ext hx).ext hy))
  have HF := hide (fun (V : World) (hy : Ext W V) => sameSnapG_b ⟨m8, m9, ms⟩ ⟨n8, n9, ns⟩ _ _ V ((h2.ext hx).ext hy) ((h4.ext hx).ext hy))
  subst hg
  have a0 : W.cell? ⟨w.heap.size, 0, none⟩ = some (.int .i64 mk) := (hA.cell 0).trans rfl
  have b0 : W.cell? ⟨w.heap.size + 1, 0, none⟩ = some (.int .i64 nk) := (hB.cell 0).trans rfl
  have a1 : W.cell? ⟨w.heap.size, 1, none⟩ = some (.int .i64 mf) := (hA.cell 1).trans rfl
  have b1 : W.cell? ⟨w.heap.size + 1, 1, none⟩ = some (.int .i64 nf) := (hB.cell 1).trans rfl
  have a2 : W.cell? ⟨w.heap.size, 2, none⟩ = some (.int .i64 mt) := (hA.cell 2).trans rfl
  have b2 : W.cell? ⟨w.heap.size + 1, 2, none⟩ = some (.int .i64 nt) := (hB.cell 2).trans rfl
  have a3 : W.cell? ⟨w.heap.size, 3, none⟩ = some (.int .u64 m3) := (hA.cell 3).trans rfl
  have b3 : W.cell? ⟨w.heap.size + 1, 3, none⟩ = some (.int .u64 n3) := (hB.cell 3).trans rfl
  have a4 : W.cell? ⟨w.heap.size, 4, none⟩ = some (.int .u64 m4) := (hA.cell 4).trans rfl
  have b4 : W.cell? ⟨w.heap.size + 1, 4, none⟩ = some (.int .u64 n4) := (hB.cell 4).trans rfl
  have a5 : W.cell? ⟨w.heap.size, 5, none⟩ = some (.int .u64 m5) := (hA.cell 5).trans rfl
  have b5 : W.cell? ⟨w.heap.size + 1, 5, none⟩ = some (.int .u64 n5) := (hB.cell 5).trans rfl
  have a6 : W.cell? ⟨w.heap.size, 6, none⟩ = some (.slice Ae me.length ce) := (hA.cell 6).trans rfl
  have b6 : W.cell? ⟨w.heap.size + 1, 6, none⟩ = some (.slice Be ne.length de) := (hB.cell 6).trans rfl
  have a7 : W.cell? ⟨w.heap.size, 7, none⟩ = some (.int .u64 m6) := (hA.cell 7).trans rfl
  have b7 : W.cell? ⟨w.heap.size + 1, 7, none⟩ = some (.int .u64 n6) := (hB.cell 7).trans rfl
  have a8 : W.cell? ⟨w.heap.size, 8, none⟩ = some (.int .u64 m7) := (hA.cell 8).trans rfl
  have b8 : W.cell? ⟨w.heap.size + 1, 8, none⟩ = some (.int .u64 n7) := (hB.cell 8).trans rfl
  have a9 : W.cell? ⟨w.heap.size, 9, none⟩ = some (.bool mo) := (hA.cell 9).trans rfl
  have b9 : W.cell? ⟨w.heap.size + 1, 9, none⟩ = some (.bool no) := (hB.cell 9).trans rfl
  have a10 : W.cell? ⟨w.heap.size, 10, none⟩ = some (.int .u64 m8) := (hA.cell 10).trans rfl
  have b10 : W.cell? ⟨w.heap.size + 1, 10, none⟩ = some (.int .u64 n8) := (hB.cell 10).trans rfl
  have a11 : W.cell? ⟨w.heap.size, 11, none⟩ = some (.int .u64 m9) := (hA.cell 11).trans rfl
  have b11 : W.cell? ⟨w.heap.size + 1, 11, none⟩ = some (.int .u64 n9) := (hB.cell 11).trans rfl
  have a12 : W.cell? ⟨w.heap.size, 12, none⟩ = some (.slice As ms.length cs) := (hA.cell 12).trans rfl
  have b12 : W.cell? ⟨w.heap.size + 1, 12, none⟩ = some (.slice Bt ns.length ds) := (hB.cell 12).trans rfl
  have a13 : W.cell? ⟨w.heap.size, 13, none⟩ = some (.int .i64 mc.kind) := (hA.cell 13).trans rfl
  have b13 : W.cell? ⟨w.heap.size + 1, 13, none⟩ = some (.int .i64 nc.kind) := (hB.cell 13).trans rfl
  have a14 : W.cell? ⟨w.heap.size, 14, none⟩ = some (.int .i64 mc.client) := (hA.cell 14).trans rfl
  have b14 : W.cell? ⟨w.heap.size + 1, 14, none⟩ = some (.int .i64 nc.client) := (hB.cell 14).trans rfl
  have a15 : W.cell? ⟨w.heap.size, 15, none⟩ = some (.int .u64 mc.seq) := (hA.cell 15).trans rfl
  have b15 : W.cell? ⟨w.heap.size + 1, 15, none⟩ = some (.int .u64 nc.seq) := (hB.cell 15).trans rfl
  have a16 : W.cell? ⟨w.heap.size, 16, none⟩ = some (str mc.name) := (hA.cell 16).trans rfl
  have b16 : W.cell? ⟨w.heap.size + 1, 16, none⟩ = some (str nc.name) := (hB.cell 16).trans rfl
  have a17 : W.cell? ⟨w.heap.size, 17, none⟩ = some (str mc.url) := (hA.cell 17).trans rfl
  have b17 : W.cell? ⟨w.heap.size + 1, 17, none⟩ = some (str nc.url) := (hB.cell 17).trans rfl
  have a18 : W.cell? ⟨w.heap.size, 18, none⟩ = some (.int .u64 mc.till) := (hA.cell 18).trans rfl
  have b18 : W.cell? ⟨w.heap.size + 1, 18, none⟩ = some (.int .u64 nc.till) := (hB.cell 18).trans rfl
  have a19 : W.cell? ⟨w.heap.size, 19, none⟩ = some (.int .i64 ma.err) := (hA.cell 19).trans rfl
  have b19 : W.cell? ⟨w.heap.size + 1, 19, none⟩ = some (.int .i64 na.err) := (hB.cell 19).trans rfl
  have a20 : W.cell? ⟨w.heap.size, 20, none⟩ = some (str ma.text) := (hA.cell 20).trans rfl
  have b20 : W.cell? ⟨w.heap.size + 1, 20, none⟩ = some (str na.text) := (hB.cell 20).trans rfl
  have hal := hA.lt
  have hbl := hB.lt
  clear hA hB h1 h2 h3 h4
  go_wp2_with fail
  all_goals try (go_ret; exact ⟨_, rfl, hx, hide (by have h8 := HRC.out; have h9 := HRA.out; clear HE HF hcr har a0 b0 a1 b1 a2 b2 a3 b3 a4 b4 a5 b5 a6 b6 a7 b7 a8 b8 a9 b9 a10 b10 a11 b11 a12 b12 a13 b13 a14 b14 a15 b15 a16 b16 a17 b17 a18 b18 a19 b19 a20 b20 hx; simp_all)⟩)
  refine (HE.out W (Ext.rfl' W)).mono ?_
  rintro e W2 ⟨r, rfl, hx2, hr⟩
  have hxw := hx.trans' hx2
  replace a0 := (hx2.cell (p := ⟨w.heap.size, 0, none⟩) hal).trans a0
  replace a1 := (hx2.cell (p := ⟨w.heap.size, 1, none⟩) hal).trans a1
  replace a2 := (hx2.cell (p := ⟨w.heap.size, 2, none⟩) hal).trans a2
  replace a3 := (hx2.cell (p := ⟨w.heap.size, 3, none⟩) hal).trans a3
  replace a4 := (hx2.cell (p := ⟨w.heap.size, 4, none⟩) hal).trans a4
  replace a5 := (hx2.cell (p := ⟨w.heap.size, 5, none⟩) hal).trans a5
  replace a6 := (hx2.cell (p := ⟨w.heap.size, 6, none⟩) hal).trans a6
  replace a7 := (hx2.cell (p := ⟨w.heap.size, 7, none⟩) hal).trans a7
  replace a8 := (hx2.cell (p := ⟨w.heap.size, 8, none⟩) hal).trans a8
  replace a9 := (hx2.cell (p := ⟨w.heap.size, 9, none⟩) hal).trans a9
  replace a10 := (hx2.cell (p := ⟨w.heap.size, 10, none⟩) hal).trans a10
  replace a11 := (hx2.cell (p := ⟨w.heap.size, 11, none⟩) hal).trans a11
  replace a12 := (hx2.cell (p := ⟨w.heap.size, 12, none⟩) hal).trans a12
  replace a13 := (hx2.cell (p := ⟨w.heap.size, 13, none⟩) hal).trans a13
  replace a14 := (hx2.cell (p := ⟨w.heap.size, 14, none⟩) hal).trans a14
  replace a15 := (hx2.cell (p := ⟨w.heap.size, 15, none⟩) hal).trans a15
  replace a16 := (hx2.cell (p := ⟨w.heap.size, 16, none⟩) hal).trans a16
  replace a17 := (hx2.cell (p := ⟨w.heap.size, 17, none⟩) hal).trans a17
  replace a18 := (hx2.cell (p := ⟨w.heap.size, 18, none⟩) hal).trans a18
  replace a19 := (hx2.cell (p := ⟨w.heap.size, 19, none⟩) hal).trans a19
  replace a20 := (hx2.cell (p := ⟨w.heap.size, 20, none⟩) hal).trans a20
  replace b0 := (hx2.cell (p := ⟨w.heap.size + 1, 0, none⟩) hbl).trans b0
  replace b1 := (hx2.cell (p := ⟨w.heap.size + 1, 1, none⟩) hbl).trans b1
  replace b2 := (hx2.cell (p := ⟨w.heap.size + 1, 2, none⟩) hbl).trans b2
  replace b3 := (hx2.cell (p := ⟨w.heap.size + 1, 3, none⟩) hbl).trans b3
  replace b4 := (hx2.cell (p := ⟨w.heap.size + 1, 4, none⟩) hbl).trans b4
  replace b5 := (hx2.cell (p := ⟨w.heap.size + 1, 5, none⟩) hbl).trans b5
  replace b6 := (hx2.cell (p := ⟨w.heap.size + 1, 6, none⟩) hbl).trans b6
  replace b7 := (hx2.cell (p := ⟨w.heap.size + 1, 7, none⟩) hbl).trans b7
  replace b8 := (hx2.cell (p := ⟨w.heap.size + 1, 8, none⟩) hbl).trans b8
  replace b9 := (hx2.cell (p := ⟨w.heap.size + 1, 9, none⟩) hbl).trans b9
  replace b10 := (hx2.cell (p := ⟨w.heap.size + 1, 10, none⟩) hbl).trans b10
  replace b11 := (hx2.cell (p := ⟨w.heap.size + 1, 11, none⟩) hbl).trans b11
  replace b12 := (hx2.cell (p := ⟨w.heap.size + 1, 12, none⟩) hbl).trans b12
  replace b13 := (hx2.cell (p := ⟨w.heap.size + 1, 13, none⟩) hbl).trans b13
  replace b14 := (hx2.cell (p := ⟨w.heap.size + 1, 14, none⟩) hbl).trans b14
  replace b15 := (hx2.cell (p := ⟨w.heap.size + 1, 15, none⟩) hbl).trans b15
  replace b16 := (hx2.cell (p := ⟨w.heap.size + 1, 16, none⟩) hbl).trans b16
  replace b17 := (hx2.cell (p := ⟨w.heap.size + 1, 17, none⟩) hbl).trans b17
  replace b18 := (hx2.cell (p := ⟨w.heap.size + 1, 18, none⟩) hbl).trans b18
  replace b19 := (hx2.cell (p := ⟨w.heap.size + 1, 19, none⟩) hbl).trans b19
  replace b20 := (hx2.cell (p := ⟨w.heap.size + 1, 20, none⟩) hbl).trans b20
  cases r with
  | false =>
    go_wp2_with fail
    go_ret
    exact ⟨_, rfl, hxw, hide (by have h7 := hr.out; clear HE HF hcr har a0 b0 a1 b1 a2 b2 a3 b3 a4 b4 a5 b5 a6 b6 a7 b7 a8 b8 a9 b9 a10 b10 a11 b11 a12 b12 a13 b13 a14 b14 a15 b15 a16 b16 a17 b17 a18 b18 a19 b19 a20 b20 hx hx2 hxw; simp_all)⟩
  | true =>
    go_wp2_with fail
    refine (HF.out W2 hx2).mono ?_
    rintro e W3 ⟨r2, rfl, hx3, hr2⟩
    have hxv := hxw.trans' hx3
    have hal3 := Nat.lt_of_lt_of_le hal hx2.size
    have hbl3 := Nat.lt_of_lt_of_le hbl hx2.size
    replace a0 := (hx3.cell (p := ⟨w.heap.size, 0, none⟩) hal3).trans a0
    replace a1 := (hx3.cell (p := ⟨w.heap.size, 1, none⟩) hal3).trans a1
    replace a2 := (hx3.cell (p := ⟨w.heap.size, 2, none⟩) hal3).trans a2
    replace a3 := (hx3.cell (p := ⟨w.heap.size, 3, none⟩) hal3).trans a3
    replace a4 := (hx3.cell (p := ⟨w.heap.size, 4, none⟩) hal3).trans a4
    replace a5 := (hx3.cell (p := ⟨w.heap.size, 5, none⟩) hal3).trans a5
    replace a6 := (hx3.cell (p := ⟨w.heap.size, 6, none⟩) hal3).trans a6
    replace a7 := (hx3.cell (p := ⟨w.heap.size, 7, none⟩) hal3).trans a7
    replace a8 := (hx3.cell (p := ⟨w.heap.size, 8, none⟩) hal3).trans a8
    replace a9 := (hx3.cell (p := ⟨w.heap.size, 9, none⟩) hal3).trans a9
    replace a10 := (hx3.cell (p := ⟨w.heap.size, 10, none⟩) hal3).trans a10
    replace a11 := (hx3.cell (p := ⟨w.heap.size, 11, none⟩) hal3).trans a11
    replace a12 := (hx3.cell (p := ⟨w.heap.size, 12, none⟩) hal3).trans a12
    replace a13 := (hx3.cell (p := ⟨w.heap.size, 13, none⟩) hal3).trans a13
    replace a14 := (hx3.cell (p := ⟨w.heap.size, 14, none⟩) hal3).trans a14
    replace a15 := (hx3.cell (p := ⟨w.heap.size, 15, none⟩) hal3).trans a15
    replace a16 := (hx3.cell (p := ⟨w.heap.size, 16, none⟩) hal3).trans a16
    replace a17 := (hx3.cell (p := ⟨w.heap.size, 17, none⟩) hal3).trans a17
    replace a18 := (hx3.cell (p := ⟨w.heap.size, 18, none⟩) hal3).trans a18
    replace a19 := (hx3.cell (p := ⟨w.heap.size, 19, none⟩) hal3).trans a19
    replace a20 := (hx3.cell (p := ⟨w.heap.size, 20, none⟩) hal3).trans a20
    replace b0 := (hx3.cell (p := ⟨w.heap.size + 1, 0, none⟩) hbl3).trans b0
    replace b1 := (hx3.cell (p := ⟨w.heap.size + 1, 1, none⟩) hbl3).trans b1
    replace b2 := (hx3.cell (p := ⟨w.heap.size + 1, 2, none⟩) hbl3).trans b2
    replace b3 := (hx3.cell (p := ⟨w.heap.size + 1, 3, none⟩) hbl3).trans b3
    replace b4 := (hx3.cell (p := ⟨w.heap.size + 1, 4, none⟩) hbl3).trans b4
    replace b5 := (hx3.cell (p := ⟨w.heap.size + 1, 5, none⟩) hbl3).trans b5
    replace b6 := (hx3.cell (p := ⟨w.heap.size + 1, 6, none⟩) hbl3).trans b6
    replace b7 := (hx3.cell (p := ⟨w.heap.size + 1, 7, none⟩) hbl3).trans b7
    replace b8 := (hx3.cell (p := ⟨w.heap.size + 1, 8, none⟩) hbl3).trans b8
    replace b9 := (hx3.cell (p := ⟨w.heap.size + 1, 9, none⟩) hbl3).trans b9
    replace b10 := (hx3.cell (p := ⟨w.heap.size + 1, 10, none⟩) hbl3).trans b10
    replace b11 := (hx3.cell (p := ⟨w.heap.size + 1, 11, none⟩) hbl3).trans b11
    replace b12 := (hx3.cell (p := ⟨w.heap.size + 1, 12, none⟩) hbl3).trans b12
    replace b13 := (hx3.cell (p := ⟨w.heap.size + 1, 13, none⟩) hbl3).trans b13
    replace b14 := (hx3.cell (p := ⟨w.heap.size + 1, 14, none⟩) hbl3).trans b14
    replace b15 := (hx3.cell (p := ⟨w.heap.size + 1, 15, none⟩) hbl3).trans b15
    replace b16 := (hx3.cell (p := ⟨w.heap.size + 1, 16, none⟩) hbl3).trans b16
    replace b17 := (hx3.cell (p := ⟨w.heap.size + 1, 17, none⟩) hbl3).trans b17
    replace b18 := (hx3.cell (p := ⟨w.heap.size + 1, 18, none⟩) hbl3).trans b18
    replace b19 := (hx3.cell (p := ⟨w.heap.size + 1, 19, none⟩) hbl3).trans b19
    replace b20 := (hx3.cell (p := ⟨w.heap.size + 1, 20, none⟩) hbl3).trans b20
    cases r2 with
    | false =>
      go_wp2_with fail
      go_ret
      exact ⟨_, rfl, hxv, hide (by have h7 := hr2.out; clear HE HF hcr har a0 b0 a1 b1 a2 b2 a3 b3 a4 b4 a5 b5 a6 b6 a7 b7 a8 b8 a9 b9 a10 b10 a11 b11 a12 b12 a13 b13 a14 b14 a15 b15 a16 b16 a17 b17 a18 b18 a19 b19 a20 b20 hx hx2 hxw hx3 hxv; simp_all)⟩
    | true =>
      go_wp2_with fail
      all_goals
        go_ret
        exact ⟨_, rfl, hxv, hide (by have h7 := hr2.out; have h6 := hr.out; have h8 := HRC.out; have h9 := HRA.out; clear HE HF hcr har a0 b0 a1 b1 a2 b2 a3 b3 a4 b4 a5 b5 a6 b6 a7 b7 a8 b8 a9 b9 a10 b10 a11 b11 a12 b12 a13 b13 a14 b14 a15 b15 a16 b16 a17 b17 a18 b18 a19 b19 a20 b20 hx hx2 hxw hx3 hxv; simp_all)⟩
end Go.Proofs.Ytlblgopfdadalaa
