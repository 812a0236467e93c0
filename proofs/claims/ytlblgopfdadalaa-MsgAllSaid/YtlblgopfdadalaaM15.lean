/- A part of the proof of 'MsgAll'. -/
import Derived.Test.YtlblgopfdadalaaM14
import Derived.BigGuardPart
namespace Go.Proofs.Ytlblgopfdadalaa
set_option linter.unusedVariables false
set_option linter.unusedSimpArgs false
set_option linter.unnecessarySimpa false
set_option maxRecDepth 100000
open Go.RowKit
set_option maxHeartbeats 12800000 in
theorem msame_b (m n : Mg) (ve vs ue us : Value) (w : World) (h1 : Enc.Sl enE w noneAt ve m.ents) (h2 : Bs w vs m.snap.state) (h3 : Enc.Sl enE w noneAt ue n.ents) (h4 : Bs w us n.snap.state) :
    Calls Try.prog 13 #[.agg (mgcells m ve vs).toArray, .agg (mgcells n ue us).toArray] w fun e w' => RetIff e (m = n) ∧ Ext w w' := by
  obtain ⟨mk, mf, mt, m3, m4, m5, me, m6, m7, mo, ⟨m8, m9, ms⟩, mc, ma⟩ := m
  obtain ⟨nk, nf, nt, n3, n4, n5, ne, n6, n7, no, ⟨n8, n9, ns⟩, nc, na⟩ := n
  simp only at h1 h2 h3 h4
  obtain ⟨Ae, ce, rfl, -, -⟩ := h1.form
  obtain ⟨As, cs, rfl, -, -, -⟩ := id h2
  obtain ⟨Be, de, rfl, -, -⟩ := h3.form
  obtain ⟨Bt, ds, rfl, -, -, -⟩ := id h4
  obtain ⟨rc, hrc, hcr⟩ := eq_cmd mc nc
  obtain ⟨ra, hra, har⟩ := eq_ans ma na
  have HRC := hide hrc
  have HRA := hide hra
  clear hrc hra
  unfold cv ccells at hcr
  simp only [acells] at har
  go_enter Try.func13, Try.ntmps13
  repeat (first | with_reducible refine two_stop ?_ | go_step)
  intro W g hg hA hB hx
  have HE := hide (equal_b _ _ _ _ _ (h2.ext hx) (h4.ext hx))
  have HF := hide (eqf_b _ _ _ _ _ (h1.ext hx) (h3.ext hx))
  subst hg
  have a0 : W.cell? ⟨w.heap.size, 0, none⟩ = some (.int .i64 mk) := (hA.cell 0).trans rfl
  have b0 : W.cell? ⟨w.heap.size + 1, 0, none⟩ = some (.int .i64 nk) := (hB.cell 0).trans rfl
  have a1 : W.cell? ⟨w.heap.size, 1, none⟩ = some (.int .i64 mf) := (hA.cell 1).trans rfl
  have b1 : W.cell? ⟨w.heap.size + 1, 1, none⟩ = some (.int .i64 nf) := (hB.cell 1).trans rfl
  have a2 : W.cell? ⟨w.heap.size, 2, none⟩ = some (.int .i64 mt) := (hA.cell 2).trans rfl
  have b2 : W.cell? ⟨w.heap.size + 1, 2, none⟩ = some (.int .i64 nt) := (hB.cell 2).trans rfl
  have a3 : W.cell? ⟨w.heap.size, 3, none⟩ = some (.int .u64 m3) := (hA.cell 3).trans rfl
  have b3 : W.cell? ⟨w.heap.size + 1, 3, none⟩ = some (.int .u64 n3) := (hB.cell 3).trans rfl
  have a4 : W.cell? ⟨w.heap.size, 4, none⟩ = some (.int .u64 m4) := (hA.cell 4).trans rfl
  have b4 : W.cell? ⟨w.heap.size + 1, 4, none⟩ = some (.int .u64 n4) := (hB.cell 4).trans rfl
  have a5 : W.cell? ⟨w.heap.size, 5, none⟩ = some (.int .u64 m5) := (hA.cell 5).trans rfl
  have b5 : W.cell? ⟨w.heap.size + 1, 5, none⟩ = some (.int .u64 n5) := (hB.cell 5).trans rfl
  have a6 : W.cell? ⟨w.heap.size, 6, none⟩ = some (.slice Ae me.length ce) := (hA.cell 6).trans rfl
  have b6 : W.cell? ⟨w.heap.size + 1, 6, none⟩ = some (.slice Be ne.length de) := (hB.cell 6).trans rfl
  have a7 : W.cell? ⟨w.heap.size, 7, none⟩ = some (.int .u64 m6) := (hA.cell 7).trans rfl
  have b7 : W.cell? ⟨w.heap.size + 1, 7, none⟩ = some (.int .u64 n6) := (hB.cell 7).trans rfl
  have a8 : W.cell? ⟨w.heap.size, 8, none⟩ = some (.int .u64 m7) := (hA.cell 8).trans rfl
  have b8 : W.cell? ⟨w.heap.size + 1, 8, none⟩ = some (.int .u64 n7) := (hB.cell 8).trans rfl
  have a9 : W.cell? ⟨w.heap.size, 9, none⟩ = some (.bool mo) := (hA.cell 9).trans rfl
  have b9 : W.cell? ⟨w.heap.size + 1, 9, none⟩ = some (.bool no) := (hB.cell 9).trans rfl
  have a10 : W.cell? ⟨w.heap.size, 10, none⟩ = some (.int .u64 m8) := (hA.cell 10).trans rfl
  have b10 : W.cell? ⟨w.heap.size + 1, 10, none⟩ = some (.int .u64 n8) := (hB.cell 10).trans rfl
  have a11 : W.cell? ⟨w.heap.size, 11, none⟩ = some (.int .u64 m9) := (hA.cell 11).trans rfl
  have b11 : W.cell? ⟨w.heap.size + 1, 11, none⟩ = some (.int .u64 n9) := (hB.cell 11).trans rfl
  have a12 : W.cell? ⟨w.heap.size, 12, none⟩ = some (.slice As ms.length cs) := (hA.cell 12).trans rfl
  have b12 : W.cell? ⟨w.heap.size + 1, 12, none⟩ = some (.slice Bt ns.length ds) := (hB.cell 12).trans rfl
  have a13 : W.cell? ⟨w.heap.size, 13, none⟩ = some (.int .i64 mc.kind) := (hA.cell 13).trans rfl
  have b13 : W.cell? ⟨w.heap.size + 1, 13, none⟩ = some (.int .i64 nc.kind) := (hB.cell 13).trans rfl
  have a14 : W.cell? ⟨w.heap.size, 14, none⟩ = some (.int .i64 mc.client) := (hA.cell 14).trans rfl
  have b14 : W.cell? ⟨w.heap.size + 1, 14, none⟩ = some (.int .i64 nc.client) := (hB.cell 14).trans rfl
  have a15 : W.cell? ⟨w.heap.size, 15, none⟩ = some (.int .u64 mc.seq) := (hA.cell 15).trans rfl
  have b15 : W.cell? ⟨w.heap.size + 1, 15, none⟩ = some (.int .u64 nc.seq) := (hB.cell 15).trans rfl
  have a16 : W.cell? ⟨w.heap.size, 16, none⟩ = some (str mc.name) := (hA.cell 16).trans rfl
  have b16 : W.cell? ⟨w.heap.size + 1, 16, none⟩ = some (str nc.name) := (hB.cell 16).trans rfl
  have a17 : W.cell? ⟨w.heap.size, 17, none⟩ = some (str mc.url) := (hA.cell 17).trans rfl
  have b17 : W.cell? ⟨w.heap.size + 1, 17, none⟩ = some (str nc.url) := (hB.cell 17).trans rfl
  have a18 : W.cell? ⟨w.heap.size, 18, none⟩ = some (.int .u64 mc.till) := (hA.cell 18).trans rfl
  have b18 : W.cell? ⟨w.heap.size + 1, 18, none⟩ = some (.int .u64 nc.till) := (hB.cell 18).trans rfl
  have a19 : W.cell? ⟨w.heap.size, 19, none⟩ = some (.int .i64 ma.err) := (hA.cell 19).trans rfl
  have b19 : W.cell? ⟨w.heap.size + 1, 19, none⟩ = some (.int .i64 na.err) := (hB.cell 19).trans rfl
  have a20 : W.cell? ⟨w.heap.size, 20, none⟩ = some (str ma.text) := (hA.cell 20).trans rfl
  have b20 : W.cell? ⟨w.heap.size + 1, 20, none⟩ = some (str na.text) := (hB.cell 20).trans rfl
  clear hA hB h1 h2 h3 h4
  go_wp2_with fail
  all_goals try (go_ret; exact ⟨⟨_, rfl, by have h8 := HRC.out; have h9 := HRA.out; clear HE HF hcr har a0 b0 a1 b1 a2 b2 a3 b3 a4 b4 a5 b5 a6 b6 a7 b7 a8 b8 a9 b9 a10 b10 a11 b11 a12 b12 a13 b13 a14 b14 a15 b15 a16 b16 a17 b17 a18 b18 a19 b19 a20 b20 hx; simp_all⟩, hx⟩)
  by_cases e11 : ¬ ms = ns
  · clear HF
    rw [decide_eq_false e11] at HE
    refine HE.out.mono ?_
    rintro e W2 ⟨rfl, rfl⟩
    go_wp2_with fail
    go_ret
    exact ⟨⟨_, rfl, by simp [e11]⟩, hx⟩
  replace e11 := Classical.not_not.1 e11
  rw [decide_eq_true e11] at HE
  refine HE.out.mono ?_
  rintro e W2 ⟨rfl, rfl⟩
  go_wp2_with fail
  refine HF.out.mono ?_
  rintro e W3 ⟨⟨r, rfl, hr⟩, hxw⟩
  have HR := hide hr
  clear hr
  go_wp2_with fail
  go_ret
  exact ⟨⟨_, rfl, by have h7 := HR.out; have h8 := HRC.out; have h9 := HRA.out; clear HE HF hcr har a0 b0 a1 b1 a2 b2 a3 b3 a4 b4 a5 b5 a6 b6 a7 b7 a8 b8 a9 b9 a10 b10 a11 b11 a12 b12 a13 b13 a14 b14 a15 b15 a16 b16 a17 b17 a18 b18 a19 b19 a20 b20 hx hxw; simp_all⟩, hx.trans' hxw⟩
end Go.Proofs.Ytlblgopfdadalaa
