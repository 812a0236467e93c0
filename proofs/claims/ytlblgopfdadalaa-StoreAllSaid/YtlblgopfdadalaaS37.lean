/- A part of the proof of 'StoreAll'. -/
import Derived.Test.YtlblgopfdadalaaS19
import Derived.Test.YtlblgopfdadalaaS36
namespace Go.Proofs.Ytlblgopfdadalaa
set_option linter.unusedVariables false
set_option linter.unusedSimpArgs false
set_option linter.unnecessarySimpa false
set_option maxRecDepth 100000
open Go.RowKit
theorem kp_ext {s t : Kp} (h1 : s.hard = t.hard) (h2 : s.snap = t.snap) (h3 : s.ents = t.ents) : s = t := by cases s; cases t; simp_all
theorem hd_ext {s t : Hd} (h1 : s.term = t.term) (h2 : s.vote = t.vote) : s = t := by cases s; cases t; simp_all
set_option maxHeartbeats 6400000 in
theorem sameKeptG_b (k q : Kp) (vs1 ve1 vs2 ve2 : Value) (w : World) (h1 : Bs w vs1 k.snap.state) (h2 : Bs w vs2 q.snap.state) (e1 : Enc.Sl enE w noneAt ve1 k.ents) (e2 : Enc.Sl enE w noneAt ve2 q.ents) :
    Calls Try.prog 24 #[.agg (kpcells k vs1 ve1).toArray, .agg (kpcells q vs2 ve2).toArray] w fun e w' => RetIs (k = q) w w' e := by
  obtain ⟨A1, c1, rfl, -, -, -⟩ := id h1
  obtain ⟨A2, c2, rfl, -, -, -⟩ := id h2
  obtain ⟨B1, d1, rfl, -, -⟩ := e1.form
  obtain ⟨B2, d2, rfl, -, -⟩ := e2.form
  obtain ⟨hB, hC, hxw⟩ := two_alK w 53 53 (kpcells k (.slice A1 k.snap.state.length c1) (.slice B1 k.ents.length d1)).toArray (kpcells q (.slice A2 q.snap.state.length c2) (.slice B2 q.ents.length d2)).toArray
  obtain ⟨g, hg⟩ : ∃ g, w.heap.size = g := ⟨_, rfl⟩
  rw [hg] at hB hC
  have HS := hide (fun (W : World) hx => sameSnapG_b k.snap q.snap (.slice A1 k.snap.state.length c1) (.slice A2 q.snap.state.length c2) W (h1.ext hx) (h2.ext hx))
  have HN := hide (fun (W : World) hx => sameEntriesG_b (.slice B1 k.ents.length d1) (.slice B2 q.ents.length d2) k.ents q.ents W (e1.ext hx) (e2.ext hx))
  rcases Bool.eq_false_or_eq_true (k.hard.term == q.hard.term && k.hard.vote == q.hard.vote) with f0 | f0
  case inr =>
    have HE : Hid (¬ k = q) := hide (fun h => by simp [h] at f0)
    rcases Bool.eq_false_or_eq_true (k.hard.term == q.hard.term) with f1 | f1
    · have f2 : (k.hard.vote == q.hard.vote) = false := by rw [f1] at f0; simpa using f0
      clear f0
      go_enter Try.func24, Try.ntmps24
      go_upto_region 1 with fail
      generalize ((w.alloc (.cells (kpcells k (.slice A1 k.snap.state.length c1) (.slice B1 k.ents.length d1)).toArray 53)).alloc (.cells (kpcells q (.slice A2 q.snap.state.length c2) (.slice B2 q.ents.length d2)).toArray 53)) = w1 at *
      try rw [hg]
      have b0 := (hB.cell 0).trans rfl
      have b1 := (hB.cell 1).trans rfl
      have c0 := (hC.cell 0).trans rfl
      have c1_ := (hC.cell 1).trans rfl
      go_wp2
      go_ret
      exact RetIs.no hxw HE.out
    · clear f0
      go_enter Try.func24, Try.ntmps24
      go_upto_region 1 with fail
      generalize ((w.alloc (.cells (kpcells k (.slice A1 k.snap.state.length c1) (.slice B1 k.ents.length d1)).toArray 53)).alloc (.cells (kpcells q (.slice A2 q.snap.state.length c2) (.slice B2 q.ents.length d2)).toArray 53)) = w1 at *
      try rw [hg]
      have b0 := (hB.cell 0).trans rfl
      have b1 := (hB.cell 1).trans rfl
      have c0 := (hC.cell 0).trans rfl
      have c1_ := (hC.cell 1).trans rfl
      go_wp2
      go_ret
      exact RetIs.no hxw HE.out
  case inl =>
    have f1 : (k.hard.term == q.hard.term) = true := by simp at f0; simp [f0]
    have f2 : (k.hard.vote == q.hard.vote) = true := by simp at f0; simp [f0]
    have HH : Hid (k.hard = q.hard) := hide (hd_ext (by simpa using f1) (by simpa using f2))
    clear f0
    go_enter Try.func24, Try.ntmps24
    go_upto_region 1 with fail
    generalize ((w.alloc (.cells (kpcells k (.slice A1 k.snap.state.length c1) (.slice B1 k.ents.length d1)).toArray 53)).alloc (.cells (kpcells q (.slice A2 q.snap.state.length c2) (.slice B2 q.ents.length d2)).toArray 53)) = w1 at *
    try rw [hg]
    have b0 := (hB.cell 0).trans rfl
    have c0 := (hC.cell 0).trans rfl
    have b1 := (hB.cell 1).trans rfl
    have c1_ := (hC.cell 1).trans rfl
    have b2 := (hB.cell 2).trans rfl
    have c2_ := (hC.cell 2).trans rfl
    have b3 := (hB.cell 3).trans rfl
    have c3 := (hC.cell 3).trans rfl
    have b4 := (hB.cell 4).trans rfl
    have c4 := (hC.cell 4).trans rfl
    have b5 := (hB.cell 5).trans rfl
    have c5 := (hC.cell 5).trans rfl
    go_wp2_with fail
    refine (HS.out w1 hxw).mono ?_
    rintro e w2 ⟨b, rfl, hx2, hb⟩
    clear b0 b1 b2 b3 b4 b5 c0 c1_ c2_ c3 c4 c5
    replace hB := hB.ext hx2
    replace hC := hC.ext hx2
    have b0 := (hB.cell 0).trans rfl
    have c0 := (hC.cell 0).trans rfl
    have b1 := (hB.cell 1).trans rfl
    have c1_ := (hC.cell 1).trans rfl
    have b2 := (hB.cell 2).trans rfl
    have c2_ := (hC.cell 2).trans rfl
    have b3 := (hB.cell 3).trans rfl
    have c3 := (hC.cell 3).trans rfl
    have b4 := (hB.cell 4).trans rfl
    have c4 := (hC.cell 4).trans rfl
    have b5 := (hB.cell 5).trans rfl
    have c5 := (hC.cell 5).trans rfl
    cases b with
    | false =>
      have HE : Hid (¬ k = q) := hide (fun h => by have := hb.out.2 (by rw [h]); cases this)
      go_wp2
      go_ret
      exact RetIs.no (hxw.trans' hx2) HE.out
    | true =>
      have HSN : Hid (k.snap = q.snap) := hide (hb.out.1 rfl)
      go_wp2_with fail
      refine (HN.out w2 (hxw.trans' hx2)).mono ?_
      rintro e w3 ⟨b, rfl, hx3, hb3⟩
      cases b with
      | false =>
        have HE : Hid (¬ k = q) := hide (fun h => by have := hb3.out.2 (by rw [h]); cases this)
        go_wp2
        go_ret
        exact RetIs.no ((hxw.trans' hx2).trans' hx3) HE.out
      | true =>
        have HE : Hid (k = q) := hide (kp_ext HH.out HSN.out (hb3.out.1 rfl))
        go_wp2
        go_ret
        exact RetIs.yes ((hxw.trans' hx2).trans' hx3) HE.out
end Go.Proofs.Ytlblgopfdadalaa
