/- sess: a table with a session, new or turned. -/
import Derived.Test.YthlbnajecfjmdaaSess2
import Derived.Test.YthlbnajecfjmdaaPut
namespace Go.Proofs.Ythlbnajecfjmdaa
set_option linter.unusedVariables false
set_option linter.unusedSimpArgs false
set_option linter.unnecessarySimpa false
set_option maxRecDepth 100000
open Go.RowKit
set_option maxHeartbeats 1600000 in
theorem with_b (X : Avoid) (w : World) (hX : ∀ k, X k → k < w.heap.size) (x : Value) (l : List Se) (s : Se) (A2 : Option Addr) (c2 : Nat) (hl : l.length ≤ 90000) (hx : Enc.Sl seE w X x l) (hs : seE.rep w X (secells s (.slice A2 s.done.length c2)) s) (hm : RiseS l) :
    Calls Try.prog 37 #[x, .agg #[.int .i64 s.client, .int .u64 s.high, .slice A2 s.done.length c2]] w fun e w' => RetOwnX 47 seE w w' X e (swith l s) := by
  obtain ⟨_, he, s1, s2, s3⟩ := se_rep.1 hs
  obtain ⟨A, cap, rfl, -, -⟩ := hx.form
  have HC := hide (fun W hXW h => cloneX_set X W hXW (.slice A l.length cap) l (by omega) h)
  have HA := hide (fun W h => at_b (.slice A l.length cap) l s.client W (by omega) h s1 hm)
  have hB := Blk.new w 47 #[.int .i64 s.client, .int .u64 s.high, .slice A2 s.done.length c2]
  have hx0 : Ext w (w.alloc (.cells #[.int .i64 s.client, .int .u64 s.high, .slice A2 s.done.length c2] 47)) := (Ext.rfl' w).alloc' _
  clear he
  obtain ⟨i, is, hsat⟩ : ∃ i is, sat l s.client = (i, is) := ⟨_, _, rfl⟩
  have HS : Hid (sat l s.client = (i, is)) := hide hsat
  have hil : i ≤ l.length := by
    have : i = cntP (ltC s.client) l := (congrArg Prod.fst hsat).symm
    rw [this]; exact cntP_le _ _
  have hit : is = true → i < l.length := by
    intro h
    rcases Nat.lt_or_ge i l.length with h1 | h1
    · exact h1
    · have e1 : i = cntP (ltC s.client) l := (congrArg Prod.fst hsat).symm
      have e2 : is = (l[cntP (ltC s.client) l]?).any fun t => decide (t.client = s.client) := (congrArg Prod.snd hsat).symm
      rw [← e1, List.getElem?_eq_none h1] at e2
      rw [e2] at h; cases h
  clear hsat
  go_enter Try.func37, Try.ntmps37
  go_wp2_with fail
  refine (HC.out _ (fun k hk => Nat.lt_of_lt_of_le (hX k hk) hx0.size) (hx.ext hx0)).mono ?_
  rintro e W1 ⟨m, Am, cm, hmm, rfl, hown, hx1⟩
  have hm' := hmm.out.symm
  subst hm'
  have hB1 := hB.ext hx1
  have x0 := (hB1.cell 0).trans rfl
  have x1 := (hB1.cell 1).trans rfl
  have x2 := (hB1.cell 2).trans rfl
  go_wp2_with fail
  refine (HA.out _ (slN ((hx.ext hx0).ext hx1))).mono ?_
  rintro e W2 ⟨rfl, hx2⟩
  rw [HS.out]
  have hB2 := hB1.ext hx2
  have y0 := (hB2.cell 0).trans rfl
  have y1 := (hB2.cell 1).trans rfl
  have y2 := (hB2.cell 2).trans rfl
  have hown2 := (hown.ext hx2).trans hx0
  have hxx := (hx0.trans' hx1).trans' hx2
  cases is
  · go_wp2_with fail
    have hn := Blk.new W2 47 (secells s (.slice A2 s.done.length c2)).toArray
    have hxn : Ext W2 (W2.alloc (.cells (secells s (.slice A2 s.done.length c2)).toArray 47)) := (Ext.rfl' W2).alloc' _
    have he : swith l s = l.take i ++ s :: l.drop i := by unfold swith; rw [HS.out]; rfl
    refine (insXSe_b X w _ (fun k hk => Nat.lt_of_lt_of_le (hX k hk) (hxx.trans' hxn).size) (.slice Am l.length cm) l i W2.heap.size s (by omega) hil (hown2.ext hxn) (hxx.trans' hxn) (secells s (.slice A2 s.done.length c2)) hn (fun k hk h => by have := (hown2.lt k hk).2; omega) (fun h => by have := hX _ h; have := hxx.size; omega) (seE.ext (seE.mono hs fun k hk hy => hy.elim id fun h => by have := (hown2.lt k h).1; omega) (hxx.trans' hxn))).mono ?_
    rintro e W4 ⟨m, A4, c4, hm4, rfl, hown4, hx4⟩
    go_wp2
    go_ret
    rw [he]
    exact ⟨m, A4, c4, hm4, rfl, hown4, hx4⟩
  · have hi := hit rfl
    obtain ⟨g, cq, cur, css, hv, hg, hb, hc, hcm, hs0, ht, he, hXg⟩ := hown2.open_ (by omega)
    simp only [Value.slice.injEq, true_and] at hv
    obtain ⟨rfl, rfl⟩ := hv
    obtain ⟨u0, u1, u2, z0, z1, z2, f0, f1, f2⟩ := Blk.has3 (cur := cur) (T := 47) hg (i * 3) (by rw [hs0]; show _ ≤ cm * 3; omega)
    unfold maxLen at hcm
    clear ht hs0
    go_wp2
    go_ret
    have hcg : Chg [g] W2 (((W2.setCell ⟨g, i * 3, none⟩ (.int .i64 s.client)).setCell ⟨g, i * 3 + 1, none⟩ (.int .u64 s.high)).setCell ⟨g, i * 3 + 2, none⟩ (.slice A2 s.done.length c2)) := (Chg.refl _ _).st3 (g := g) (by simp) _ _ _ _
    have hp := hown2.put hi (a := s) (cs := secells s (.slice A2 s.done.length c2)) (seE.ext (seE.mono hs fun k hk hy => hy.elim id fun h => by subst h; omega) hxx) hcg fun cur hcur ho => put3_cells hcur ho
    have he : swith l s = l.set i s := by unfold swith; rw [HS.out]; rfl
    rw [he]
    exact ⟨_, some ⟨g, 0, none⟩, cm, hide rfl, by rw [List.length_set]; rfl, by rw [List.length_set]; exact hp, hxx.then_ hcg (by simpa using hb)⟩
end Go.Proofs.Ythlbnajecfjmdaa
