/- A part of the proof of 'StateBytes'. -/
import Derived.Test.YtamimdlaclglkaaGreatB38
import Derived.Test.YtamimdlaclglkaaGreatB10
import Derived.Test.YtamimdlaclglkaaGreatB35
import Derived.Test.YtamimdlaclglkaaGreatB36
import Derived.Test.YtamimdlaclglkaaGreatB27
namespace Go.Proofs.YtamimdlaclglkaaGreat
set_option linter.unusedVariables false
set_option linter.unusedSimpArgs false
set_option linter.unnecessarySimpa false
set_option maxRecDepth 100000
open Go.RowKit
theorem elt_an : Elt 33 anE (.agg #[.int .i64 0, .string ByteArray.empty]) 24 := ⟨by kernel_rfl, rfl, by decide⟩
theorem an_any {w w' : World} {X Y : Avoid} {cs : List Value} {a : An} (h : anE.rep w X cs a) : anE.rep w' Y cs a := an_rep.2 (an_rep.1 h)
theorem Own.chgF {α : Type} {T : TypeId} {E : Enc α} {S : List Nat} {w0 w w' : World} {X : Avoid} {v : Value} {l : List α} (h : Own T E w0 w X v l) (hc : Chg S w w') (hn : ∀ k, v.ownBlock = some k → k ∉ S) (hE : ∀ {Y cs a}, E.rep w Y cs a → E.rep w' Y cs a) : Own T E w0 w' X v l := by
  obtain ⟨css, h1, h2, h3⟩ := h
  exact ⟨css, own_chg h1 hc hn, ⟨h2.1, fun k cs a e1 e2 => hE (h2.2 k cs a e1 e2)⟩, h3⟩
structure CmOk (c : Cm) : Prop where
  url : c.url.length ≤ 1000000
  name : c.name.length ≤ 1000000
def RetAll (X : Avoid) (w w' : World) (e : Ending) (r : St × List An) : Prop :=
  ∃ (t : St) (an_ : List An) (At : Option Addr) (ct : Nat) (Au : Option Addr) (cu : Nat) (A : Option Addr) (c : Nat), Hid ((t, an_) = r) ∧ e = .returned (.tuple #[.agg #[.int .u64 t.now, .int .u64 t.count, .slice At t.links.length ct, .slice Au t.sess.length cu], .slice A an_.length c]) ∧
    stE.rep w' X [.int .u64 t.now, .int .u64 t.count, .slice At t.links.length ct, .slice Au t.sess.length cu] t ∧ Own 33 anE w w' X (.slice A an_.length c) an_ ∧ Ext w w'
theorem SInv.all : ∀ (l : List Cm) {s : St}, SInv s → (∀ c ∈ l, c.wide ∧ CmOk c) → SInv (sall s l).1
  | [], _, h, _ => h
  | c :: l, _, h, hl => SInv.all l (h.step (hl c List.mem_cons_self).1.t0 ⟨(hl c List.mem_cons_self).1.s0, (hl c List.mem_cons_self).1.s1⟩ (hl c List.mem_cons_self).2.name) fun d hd => hl d (List.mem_cons_of_mem _ hd)
theorem sall_len : ∀ (l : List Cm) (s : St), (sall s l).2.length = l.length
  | [], _ => rfl
  | c :: l, s => by unfold sall; simp [sall_len l]
theorem sapply_an {s : St} (h : SInv s) {c : Cm} (hn : c.name.length ≤ 1000000) : (sapply s c).2.text.length ≤ 1000000 ∧ 0 ≤ (sapply s c).2.err ∧ (sapply s c).2.err ≤ 16 := by
  unfold sapply
  split
  · simp
  · split
    · rename_i ha
      unfold ask
      split
      · simp
      · split
        · rename_i a hk
          unfold kept at hk
          obtain ⟨d, hd, rfl⟩ := Option.map_eq_some_iff.1 hk
          have hm := List.mem_of_find?_eq_some hd
          rcases sown_mem (l := s.sess) (c := c.client) rfl with h1 | h1
          · exact h.texts _ h1 d hm
          · rw [h1] at hm; cases hm
        · split <;> simp
    · exact ldo_an h.links hn
set_option maxHeartbeats 12800000 in
theorem sall_b (X : Avoid) (s : St) (cs : List Value) (x : Value) (l : List Cm) (w : World) (hX : ∀ j, X j → j < w.heap.size) (hs : stE.rep w noneAt cs s) (hi : SInv s) (hx : Enc.Sl cmE w noneAt x l) (hok : ∀ c ∈ l, CmOk c) (hn : l.length ≤ 100000) :
    Calls Tryz.prog 13 #[.agg cs.toArray, x] w fun e w' => RetAll X w w' e (sall s l) := by
  obtain ⟨vl, vs, rfl, u1, u2, s3, s4⟩ := st_rep.1 hs
  obtain ⟨Al, cl, rfl, -, -⟩ := s3.form
  obtain ⟨As, ca, rfl, -, -⟩ := s4.form
  obtain ⟨Ax, cx, rfl, -, -⟩ := hx.form
  obtain ⟨hB, hR_, hx0⟩ := two_alC w 28 28 (stcells s (.slice Al s.links.length cl) (.slice As s.sess.length ca)).toArray #[.int .u64 0, .int .u64 0, .slice none 0 0, .slice none 0 0]
  obtain ⟨g, hg⟩ : ∃ g, w.heap.size = g := ⟨_, rfl⟩
  rw [hg] at hB hR_
  have hgw : w.heap.size ≤ g := by omega
  have hXl : ∀ j, X j → j < g := fun j hj => by rw [← hg]; exact hX j hj
  have hsl := hi.len
  have hll := hi.links.len
  have hdn := hi.done
  have hs0 := stE.ext hs hx0
  go_enter Tryz.func13, Tryz.ntmps13
  go_upto_region 2 with fail
  generalize (w.alloc (.cells (stcells s (.slice Al s.links.length cl) (.slice As s.sess.length ca)).toArray 28)).alloc (.cells #[.int .u64 0, .int .u64 0, .slice none 0 0, .slice none 0 0] 28) = w1 at *
  try rw [hg]
  clear hg hs s3 s4
  have hXQ : ∀ j, XC X g j → j < w1.heap.size := fun j hj => by
    have h1 := hR_.lt
    rcases hj with h | h
    · have := hXl j h; omega
    · omega
  have b0 := (hB.cell 0).trans rfl
  have b1 := (hB.cell 1).trans rfl
  have b2 := (hB.cell 2).trans rfl
  have b3 := (hB.cell 3).trans rfl
  go_wp2_with fail
  refine (stcopied_b (XC X g) s _ w1 hXQ hs0 (by omega) (by omega) (fun x hx => by have := (hdn x hx).2; omega)).mono ?_
  rintro e W2 ⟨cs2, rfl, hr2, hx2⟩
  obtain ⟨vl2, vs2, rfl, -, -, l2, m2⟩ := st_rep.1 hr2
  obtain ⟨AL, cL, rfl, -, -⟩ := l2.form
  obtain ⟨AS, cS, rfl, -, -⟩ := m2.form
  clear l2 m2 b0 b1 b2 b3
  have hB2 := hB.ext hx2
  have b0 := (hB2.cell 0).trans rfl
  have fb0 := hB2.frozen 0
  have b1 := (hB2.cell 1).trans rfl
  have fb1 := hB2.frozen 1
  have b2 := (hB2.cell 2).trans rfl
  have fb2 := hB2.frozen 2
  have b3 := (hB2.cell 3).trans rfl
  have fb3 := hB2.frozen 3
  go_upto_region 3 with fail
  have hcg : Chg [g] W2 _ := (Chg.refl [g] W2).four (g := g) (by simp) (.int .u64 s.now) (.int .u64 s.count) (.slice AL s.links.length cL) (.slice AS s.sess.length cS)
  have hB3 := Blk.four hB2 (.int .u64 s.now) (.int .u64 s.count) (.slice AL s.links.length cL) (.slice AS s.sess.length cS)
  have hr3 := stE.chg hr2 hcg (fun j hj _ => by have := List.mem_singleton.1 hj; exact .inr (by omega))
  replace hR_ := (hR_.ext hx2).chg hcg (by simp)
  have hxw := (hx0.trans' hx2).then_ hcg (by simpa using hgw)
  generalize ((((W2.setCell ⟨g, 0, none⟩ (.int .u64 s.now)).setCell ⟨g, 1, none⟩ (.int .u64 s.count)).setCell ⟨g, 2, none⟩ (.slice AL s.links.length cL)).setCell ⟨g, 3, none⟩ (.slice AS s.sess.length cS)) = W3 at *
  clear hcg hB2 hr2 hx2 hB hs0 hx0 b0 b1 b2 b3 fb0 fb1 fb2 fb3 hsl hll hdn hXQ
  have hW3 : g + 1 < W3.heap.size := hR_.lt
  go_wp2_with fail
  go_loopw [14, 6] (fun i vo wr => ∃ (m : Nat) (t : St) (At : Option Addr) (ct : Nat) (Au : Option Addr) (cu : Nat) (an_ : List An) (A : Option Addr) (c : Nat), m ≤ l.length ∧ i = .int .i64 m ∧ vo = .slice A an_.length c ∧ Hid ((t, an_) = sall s (l.take m)) ∧ Blk wr g 28 #[.int .u64 t.now, .int .u64 t.count, .slice At t.links.length ct, .slice Au t.sess.length cu] ∧ Blk wr (g + 1) 28 #[.int .u64 0, .int .u64 0, .slice none 0 0, .slice none 0 0] ∧
      stE.rep wr (XC X g) [.int .u64 t.now, .int .u64 t.count, .slice At t.links.length ct, .slice Au t.sess.length cu] t ∧ Own 33 anE w wr (XC X g) (.slice A an_.length c) an_ ∧ Ext w wr) (fun i _ _ => (l.length - intOf i).toNat)
  case atStart => exact ⟨0, s, AL, cL, AS, cS, [], none, 0, by omega, rfl, rfl, hide rfl, hB3, hR_, hr3, Own.nil _ _ _ _ _, hxw⟩
  case round =>
    clear hB3 hR_ hr3 hxw
    obtain ⟨m, t, At, ct, Au, cu, an_, A, c, hm, rfl, rfl, hta, hB, hR_, hr, hown, hxw⟩ := hrel
    have hti : Hid (SInv t) := hide (by
      have := SInv.all (l.take m) hi (fun c hc => ⟨by
        obtain ⟨k, hk⟩ := List.mem_iff_getElem?.1 (List.mem_of_mem_take hc)
        obtain ⟨_, _, _, h1, -, -, -, -, -, -, -, h2⟩ := cm_at hx (k := k) (List.getElem?_eq_some_iff.1 hk).1
        rw [Option.some.inj (hk.symm.trans h1.out)]; exact h2, hok c (List.mem_of_mem_take hc)⟩)
      rw [← hta.out] at this
      exact this)
    have hlen : Hid (an_.length ≤ m) := hide (by
      have := sall_len (l.take m) s
      rw [← hta.out] at this
      simp only [List.length_take] at this
      omega)
    by_cases hlt : m < l.length
    · obtain ⟨ad, cm, rfl, hcm, hbk, p0_, p1_, p2_, p3_, p4_, p5_, hcw⟩ := cm_at hx hlt
      have hab : (ad.add (m * 6)).block < w.heap.size := by rw [block_of_add]; exact hbk
      have p0 := (hxw.cell (p := ad.add (m * 6)) hab).trans p0_
      have p1 := (hxw.cell (p := ⟨(ad.add (m * 6)).block, (ad.add (m * 6)).off + 1, none⟩) hab).trans p1_
      have p2 := (hxw.cell (p := ⟨(ad.add (m * 6)).block, (ad.add (m * 6)).off + 2, none⟩) hab).trans p2_
      have p3 := (hxw.cell (p := ⟨(ad.add (m * 6)).block, (ad.add (m * 6)).off + 3, none⟩) hab).trans p3_
      have p4 := (hxw.cell (p := ⟨(ad.add (m * 6)).block, (ad.add (m * 6)).off + 4, none⟩) hab).trans p4_
      have p5 := (hxw.cell (p := ⟨(ad.add (m * 6)).block, (ad.add (m * 6)).off + 5, none⟩) hab).trans p5_
      clear p0_ p1_ p2_ p3_ p4_ p5_
      have hck := hok cm (List.mem_of_getElem? hcm.out)
      have hb1 : (0 : Int) ≤ m := by omega
      have hb2 : (m : Int) < l.length := by omega
      have hTS := hide (show sall s (l.take (m + 1)) = ((sapply (sall s (l.take m)).1 cm).1, (sall s (l.take m)).2 ++ [(sapply (sall s (l.take m)).1 cm).2]) by
        rw [List.take_add_one, hcm.out]; exact sall_snoc s cm (l.take m) s)
      rw [← hta.out] at hTS
      simp only at hTS
      have HLT := hide hlt
      clear hlt
      obtain ⟨hC4, hN4, hx4⟩ := two_alC wr 37 33 (ccells cm) #[.int .i64 0, str []]
      obtain ⟨g8, hg8⟩ : ∃ g, wr.heap.size = g := ⟨_, rfl⟩
      rw [hg8] at hC4 hN4
      have hg8g : g + 1 < g8 := by rw [← hg8]; exact hR_.lt
      go_upto_region 7 with fail
      try rw [hg8]
      generalize (wr.alloc (.cells (ccells cm) 37)).alloc (.cells #[.int .i64 0, str []] 33) = W4 at *
      clear p0 p1 p2 p3 p4 p5
      have hB4 := hB.ext hx4
      have HAP := hide (fun (W : World) (hxx : Ext W4 W) => sapply_b (fun j => (XC X g j ∨ (Value.slice A an_.length c).ownBlock = some j) ∨ j = g8 ∨ j = g8 + 1) t _ cm W (fun j hj => by
        have h1 := (hR_.ext (hx4.trans' hxx)).lt
        have h2 := (hN4.ext hxx).lt
        rcases hj with ((h | h) | h) | h
        · have := hXl j h; omega
        · omega
        · have := (hown.lt j h).2; have h3 := (hx4.trans' hxx).size; omega
        · omega) (stE.mono (stE.ext hr (hx4.trans' hxx)) fun _ _ h => h.elim) hti.out hcw hck.url hck.name)
      have b0 := (hB4.cell 0).trans rfl
      have b1 := (hB4.cell 1).trans rfl
      have b2 := (hB4.cell 2).trans rfl
      have b3 := (hB4.cell 3).trans rfl
      have n0 := (hC4.cell 0).trans rfl
      have n1 := (hC4.cell 1).trans rfl
      have n2 := (hC4.cell 2).trans rfl
      have n3 := (hC4.cell 3).trans rfl
      have n4 := (hC4.cell 4).trans rfl
      have n5 := (hC4.cell 5).trans rfl
      go_wp2_with fail
      refine (HAP.out W4 (Ext.rfl' _)).mono ?_
      rintro e W5 ⟨t2, a2, A5, c5, B5, d5, hta2, rfl, hr5, hx5⟩
      clear b0 b1 b2 b3 n0 n1 n2 n3 n4 n5
      have hB5 := hB4.ext hx5
      have hN5 := hN4.ext hx5
      have n0 := (hN5.cell 0).trans rfl
      have n1 := (hN5.cell 1).trans rfl
      have nf0 := hN5.frozen 0
      have nf1 := hN5.frozen 1
      have b0 := (hB5.cell 0).trans rfl
      have fb0 := hB5.frozen 0
      have b1 := (hB5.cell 1).trans rfl
      have fb1 := hB5.frozen 1
      have b2 := (hB5.cell 2).trans rfl
      have fb2 := hB5.frozen 2
      have b3 := (hB5.cell 3).trans rfl
      have fb3 := hB5.frozen 3
      go_upto_region 8 with fail
      have hcg : Chg [g] W5 _ := (Chg.refl [g] W5).four (g := g) (by simp) (.int .u64 t2.now) (.int .u64 t2.count) (.slice A5 t2.links.length c5) (.slice B5 t2.sess.length d5)
      have hcg2 : Chg [g8 + 1] _ _ := (Chg.refl [g8 + 1] ((((W5.setCell ⟨g, 0, none⟩ (.int .u64 t2.now)).setCell ⟨g, 1, none⟩ (.int .u64 t2.count)).setCell ⟨g, 2, none⟩ (.slice A5 t2.links.length c5)).setCell ⟨g, 3, none⟩ (.slice B5 t2.sess.length d5))).two_ (g := g8 + 1) (by simp) (.int .i64 a2.err) (str a2.text)
      have hB6 := (Blk.four hB5 (.int .u64 t2.now) (.int .u64 t2.count) (.slice A5 t2.links.length c5) (.slice B5 t2.sess.length d5)).chg hcg2 (by simp; omega)
      have hN6 := Blk.two_ (hN5.chg hcg (by simp; omega)) (.int .i64 a2.err) (str a2.text)
      have hN5g : Blk ((((W5.setCell ⟨g, 0, none⟩ (.int .u64 t2.now)).setCell ⟨g, 1, none⟩ (.int .u64 t2.count)).setCell ⟨g, 2, none⟩ (.slice A5 t2.links.length c5)).setCell ⟨g, 3, none⟩ (.slice B5 t2.sess.length d5)) (g8 + 1) 33 #[.int .i64 0, str []] := hN5.chg hcg (by simp; omega)
      have hr6 : stE.rep _ (fun j => XC X g j ∨ (Value.slice A an_.length c).ownBlock = some j) [.int .u64 t2.now, .int .u64 t2.count, .slice A5 t2.links.length c5, .slice B5 t2.sess.length d5] t2 := stE.mono (stE.chg (stE.chg hr5 hcg (fun j hj _ => by have := List.mem_singleton.1 hj; exact .inl (.inl (.inr (by omega))))) hcg2 (fun j hj _ => by have := List.mem_singleton.1 hj; exact .inr (.inr this))) (fun _ _ h => .inl h)
      have hown6 := (((hown.ext hx4).ext hx5).chgT hB5 (by decide) hcg (fun h => an_any h)).chgF hcg2 (fun k hk hm => by have := (hown.lt k hk).2; have := List.mem_singleton.1 hm; omega) (fun h => an_any h)
      have hR6 := (((hR_.ext hx4).ext hx5).chg hcg (by simp)).chg hcg2 (by simp; omega)
      have hxw6 := (((hxw.trans' hx4).trans' hx5).then_ hcg (by simp; omega)).then_ hcg2 (by simp; omega)
      generalize ((((((W5.setCell ⟨g, 0, none⟩ (.int .u64 t2.now)).setCell ⟨g, 1, none⟩ (.int .u64 t2.count)).setCell ⟨g, 2, none⟩ (.slice A5 t2.links.length c5)).setCell ⟨g, 3, none⟩ (.slice B5 t2.sess.length d5)).setCell ⟨g8 + 1, 0, none⟩ (.int .i64 a2.err)).setCell ⟨g8 + 1, 1, none⟩ (str a2.text)) = W6 at *
      clear hcg hcg2 hB5 hN5 n0 n1 nf0 nf1 b0 b1 b2 b3 fb0 fb1 fb2 fb3 hr5 HAP hB4 hC4 hN4 hB hR_ hr hown hxw hx4 hx5
      have ha2 : I64 a2.err ∧ a2.text.length ≤ maxLen := by
        have := sapply_an hti.out (c := cm) hck.name
        rw [← hta2.out] at this
        simp only at this
        exact ⟨⟨by omega, by omega⟩, by simp only [maxLen]; omega⟩
      have hxa : Ext W6 (W6.alloc (.cells #[.int .i64 a2.err, str a2.text] 33)) := (Ext.rfl' _).alloc' _
      have hXW6 : ∀ j, XC X g j → j < W6.heap.size := fun j hj => by
        have h1 := hR6.lt
        rcases hj with h | h
        · have := hXl j h; omega
        · omega
      have hlit : Enc.Sl anE (W6.alloc (.cells #[.int .i64 a2.err, str a2.text] 33)) (fun j => XC X g j ∨ (Value.slice A an_.length c).ownBlock = some j) (.slice (some ⟨W6.heap.size, 0, none⟩) 1 1) [a2] :=
        Sl.one (E := anE) 33 (cs := acells a2) (an_rep.2 ⟨rfl, ha2⟩) _ rfl (fun h => by
          rcases h with h | h
          · have := hXW6 _ h; omega
          · have := (hown6.lt _ h).2; omega)
      have n0 := (hN6.cell 0).trans rfl
      have n1 := (hN6.cell 1).trans rfl
      go_wp2_with (at_builtin; refine wpList_own elt_an 39 Tryz.underlying39 rfl _ _ rfl (hown6.ext hxa) rfl (hxw6.trans' hxa) (m := [a2]) (y := .slice (some ⟨W6.heap.size, 0, none⟩) 1 1) rfl hlit (fun h => by have := hXW6 _ h; simp at this; omega) (by have := hlen.out; simp only [List.length_singleton]; omega) (by have := hlen.out; simp only [List.length_singleton]; omega) ?_; intro l2 A2 c2 w7 hl2 hown7 hx7 hc7)
      have hx67 : Chg (Value.slice A an_.length c).ownBlock.toList W6 w7 := (hxa.chg _).trans hc7
      have hr7 : stE.rep w7 (XC X g) [.int .u64 t2.now, .int .u64 t2.count, .slice A5 t2.links.length c5, .slice B5 t2.sess.length d5] t2 := stE.mono (stE.chg hr6 hx67 (fun j hj _ => .inr (by simpa using hj))) (fun _ _ h => .inl h)
      have hno : ∀ k, k ∈ (Value.slice A an_.length c).ownBlock.toList → ¬ XC X g k := fun k hk => by
        obtain ⟨_, -, h3⟩ := id hown6
        exact h3.2 k (by simpa using hk)
      go_roundw
      case rel => exact ⟨m + 1, t2, A5, c5, B5, d5, l2, A2, c2, by have := HLT.out; omega, by go_num, rfl, hide (by rw [hTS.out, ← hta2.out, hl2.out]), hB6.chg hx67 (fun hm => hno g hm (.inr ⟨by omega, by omega⟩)), hR6.chg hx67 (fun hm => hno (g + 1) hm (.inr ⟨by omega, by omega⟩)), hr7, hown7, hx7⟩
      case measure => have := HLT.out; simp [intOf]; omega
    · obtain rfl : m = l.length := by omega
      rw [List.take_length] at hta
      have b0 := (hB.cell 0).trans rfl
      have b1 := (hB.cell 1).trans rfl
      have b2 := (hB.cell 2).trans rfl
      have b3 := (hB.cell 3).trans rfl
      have r0 := (hR_.cell 0).trans rfl
      have fr0 := hR_.frozen 0
      have r1 := (hR_.cell 1).trans rfl
      have fr1 := hR_.frozen 1
      have r2 := (hR_.cell 2).trans rfl
      have fr2 := hR_.frozen 2
      have r3 := (hR_.cell 3).trans rfl
      have fr3 := hR_.frozen 3
      go_wp2
      try simp only [Exit.inBlock, Exit.then]
      have hcf : Chg [g + 1] wr _ := (Chg.refl [g + 1] wr).four (g := g + 1) (by simp) (.int .u64 t.now) (.int .u64 t.count) (.slice At t.links.length ct) (.slice Au t.sess.length cu)
      refine bodyPost_ret (results_cell2 rfl _ _ (g + 1) 28 #[.int .u64 t.now, .int .u64 t.count, .slice At t.links.length ct, .slice Au t.sess.length cu] (0, 0) _ rfl (Blk.four hR_ _ _ _ _) Tryz.underlying28 rfl (by kernel_rfl)) rfl ?_
      have hin : ∀ j, j ∈ [g + 1] → j < wr.heap.size → XC X g j := fun j hj _ => by have := List.mem_singleton.1 hj; exact .inr ⟨by omega, by omega⟩
      exact ⟨t, an_, At, ct, Au, cu, A, c, hta, rfl, stE.mono (stE.chg hr hcf hin) (fun _ _ h => .inl h), (hown.chg hcf hin).mono (fun _ _ h => .inl h), hxw.then_ hcf (by simp; omega)⟩
end Go.Proofs.YtamimdlaclglkaaGreat
namespace Go.Proofs.YtamimdlaclglkaaGreat
set_option linter.unusedVariables false
set_option linter.unusedSimpArgs false
set_option linter.unnecessarySimpa false
set_option maxRecDepth 100000
open Go.RowKit
abbrev z0S : St := ⟨0, 0, [], []⟩
abbrev z1S : St := ⟨0, 1, [⟨[48, 48, 48], [117], 0, true⟩], [⟨0, 1, [⟨1, ⟨0, [48, 48, 48]⟩⟩]⟩]⟩
abbrev d1S : Cm := ⟨1, 0, 1, [], [117], 0⟩
abbrev d2S : Cm := ⟨3, 0, 2, [48, 48, 48], [], 0⟩
theorem sap1 : sapply z0S d1S = (z1S, ⟨0, [48, 48, 48]⟩) := by kernel_rfl
theorem sap2 : (sall z1S [d2S]).2 = [⟨0, [117]⟩] := by kernel_rfl
theorem stk1 : ptake (stB z1S) = (z1S, 0) := by kernel_rfl
theorem stl1 : (stB z1S).length = 67 := by kernel_rfl
theorem d1S_wide : d1S.wide := by constructor <;> simp [d1S, maxLen, U64] <;> omega
theorem d2S_wide : d2S.wide := by constructor <;> simp [d2S, maxLen, U64] <;> omega
theorem sinv1 : SInv z1S := by
  have h := sinv0.step (c := d1S) (by decide) (by decide) (by decide)
  rw [show sapply ⟨0, 0, [], []⟩ d1S = (z1S, ⟨0, [48, 48, 48]⟩) from sap1] at h
  exact h
theorem z0_rep (w : World) (X : Avoid) : stE.rep w X [.int .u64 0, .int .u64 0, .slice none 0 0, .slice none 0 0] z0S :=
  st_rep.2 ⟨.slice none 0 0, .slice none 0 0, rfl, ⟨by simp, by simp⟩, ⟨by simp, by simp⟩, Enc.Sl.nil _ _ _, Enc.Sl.nil _ _ _⟩
theorem z1_put : PutOk z1S := ⟨by rw [stl1]; decide, by decide, by decide⟩
theorem an_atB {w : World} {X : Avoid} {A : Option Addr} {n c k : Nat} {l : List An} (h : Enc.Sl anE w X (.slice A n c) l) (hk : k < l.length) : ∃ (ad : Addr) (a : An), A = some ad ∧ Hid (l[k]? = some a) ∧ ad.block < w.heap.size ∧ w.cell? (ad.add (k * 2)) = some (.int .i64 a.err) ∧
    w.cell? ⟨(ad.add (k * 2)).block, (ad.add (k * 2)).off + 1, none⟩ = some (str a.text) := by
  obtain ⟨ad, cs, rfl, hrep, hb, hcell⟩ := h.at_ hk
  obtain ⟨rfl, -, -⟩ := an_rep.1 hrep
  exact ⟨ad, _, rfl, hide (List.getElem?_eq_getElem hk), hb, Enc.cell0 hcell rfl, Enc.cellS hcell 0 rfl⟩
set_option maxHeartbeats 3200000 in
theorem begun20_b (w : World) : Calls Tryz.prog 8 #[] w fun e w' => e = .returned (.bool true) ∧ Ext w w' := by
  have H1 := hide (fun W => sapply_b noneAt z0S _ d1S W (fun _ h => h.elim) (z0_rep W _) sinv0 d1S_wide (by decide) (by decide))
  rw [sap1] at H1
  have H2 := hide (fun W cs h => stput_b z1S cs W h z1_put (by decide) (by decide) (by decide))
  have H3 := hide (fun W x (m : Bytes) (hm : m = stB z1S) h => sttake_b x m noneAt W (by rw [hm, stl1]; decide) h (fun _ h => h.elim))
  have H4 := hide (fun W cs x h hx => sall_b noneAt z1S cs x [d2S] W (fun _ h => h.elim) h sinv1 hx (by simp; exact ⟨by decide, by decide⟩) (by decide))
  have H5 := hide (fun W cs1 cs2 s t h1 h2 => stsame_b s t cs1 cs2 W h1 h2)
  go_enter Tryz.func8, Tryz.ntmps8
  go_wp2_with fail
  refine (H1.out _).mono ?_
  rintro e W1 ⟨t, a, A1, c1, A2, c2, h1, rfl, hrep, hx1⟩
  obtain ⟨rfl, rfl⟩ := Prod.mk.inj h1.out
  clear h1
  obtain ⟨g1, hg1⟩ : ∃ g, W1.heap.size = g := ⟨_, rfl⟩
  have hS := Blk.new W1 28 #[.int .u64 z1S.now, .int .u64 z1S.count, .slice A1 z1S.links.length c1, .slice A2 z1S.sess.length c2]
  have hA := Blk.new (W1.alloc (.cells #[.int .u64 z1S.now, .int .u64 z1S.count, .slice A1 z1S.links.length c1, .slice A2 z1S.sess.length c2] 28)) 33 (acells ⟨0, [48, 48, 48]⟩).toArray
  rw [show (W1.alloc (.cells #[.int .u64 z1S.now, .int .u64 z1S.count, .slice A1 z1S.links.length c1, .slice A2 z1S.sess.length c2] 28)).heap.size = W1.heap.size + 1 by simp] at hA
  replace hS := hS.alloc (.cells (acells ⟨0, [48, 48, 48]⟩).toArray 33)
  rw [hg1] at hS hA
  have hx1' : Ext W1 ((W1.alloc (.cells #[.int .u64 z1S.now, .int .u64 z1S.count, .slice A1 z1S.links.length c1, .slice A2 z1S.sess.length c2] 28)).alloc (.cells (acells ⟨0, [48, 48, 48]⟩).toArray 33)) := ((Ext.rfl' W1).alloc' _).alloc' _
  have hrep1 := stE.ext hrep hx1'
  have hxa := hx1.trans' hx1'
  go_upto_region 2 with fail
  try rw [hg1]
  generalize ((W1.alloc (.cells #[.int .u64 z1S.now, .int .u64 z1S.count, .slice A1 z1S.links.length c1, .slice A2 z1S.sess.length c2] 28)).alloc (.cells (acells ⟨0, [48, 48, 48]⟩).toArray 33)) = W2 at *
  have s0 := (hS.cell 0).trans rfl
  have s1 := (hS.cell 1).trans rfl
  have s2 := (hS.cell 2).trans rfl
  have s3 := (hS.cell 3).trans rfl
  go_wp2_with fail
  refine (H2.out _ _ hrep1).mono ?_
  rintro e W3 ⟨m, Am, cm, hm, rfl, hz, hx3⟩
  replace hS := hS.ext hx3
  replace hA := hA.ext hx3
  have hrep3 := stE.ext hrep1 hx3
  have hxb := hxa.trans' hx3
  have hml : Hid ((20 : Int) < m.length) := hide (by rw [hm.out, stl1]; decide)
  clear s0 s1 s2 s3
  go_wp2_with fail
  refine (H3.out _ _ m hm.out hz.bs).mono ?_
  rintro e W4 ⟨t, k, A3, c3, A4, c4, h1, rfl, hrep4, hx4⟩
  rw [hm.out, stk1] at h1
  obtain ⟨rfl, rfl⟩ := Prod.mk.inj h1.out
  clear h1
  replace hS := hS.ext hx4
  replace hA := hA.ext hx4
  obtain ⟨g4, hg4⟩ : ∃ g, W4.heap.size = g := ⟨_, rfl⟩
  have hT := Blk.new W4 28 #[.int .u64 z1S.now, .int .u64 z1S.count, .slice A3 z1S.links.length c3, .slice A4 z1S.sess.length c4]
  have hx4' := hx4.alloc' (.cells #[.int .u64 z1S.now, .int .u64 z1S.count, .slice A3 z1S.links.length c3, .slice A4 z1S.sess.length c4] 28)
  have hS4 := hS.alloc (.cells #[.int .u64 z1S.now, .int .u64 z1S.count, .slice A3 z1S.links.length c3, .slice A4 z1S.sess.length c4] 28)
  have hA4 := hA.alloc (.cells #[.int .u64 z1S.now, .int .u64 z1S.count, .slice A3 z1S.links.length c3, .slice A4 z1S.sess.length c4] 28)
  have hrepT := stE.ext hrep4 ((Ext.rfl' W4).alloc' (.cells #[.int .u64 z1S.now, .int .u64 z1S.count, .slice A3 z1S.links.length c3, .slice A4 z1S.sess.length c4] 28))
  have hrep4' := stE.ext hrep3 hx4'
  have hxc := hxb.trans' hx4'
  rw [hg4] at hT
  go_upto_region 4 with fail
  try rw [hg4]
  generalize (W4.alloc (.cells #[.int .u64 z1S.now, .int .u64 z1S.count, .slice A3 z1S.links.length c3, .slice A4 z1S.sess.length c4] 28)) = W5 at *
  have s0 := (hS4.cell 0).trans rfl
  have s1 := (hS4.cell 1).trans rfl
  have s2 := (hS4.cell 2).trans rfl
  have s3 := (hS4.cell 3).trans rfl
  have hlit := Sl.one 37 (w := W5) (X := noneAt) (cm_rep d2S_wide) W5.heap.size rfl (fun h => h.elim)
  have hx5 : Ext W5 (W5.alloc (.cells (ccells d2S) 37)) := (Ext.rfl' _).alloc' _
  go_wp2_with fail
  refine (H4.out _ _ _ (stE.ext hrep4' hx5) hlit).mono ?_
  rintro e W6 ⟨t, l, A5, c5, A6, c6, A7, c7, h1, rfl, hrep6, hown6, hx6⟩
  have hl : l = [⟨0, [117]⟩] := by rw [← sap2, ← h1.out]
  subst hl
  clear h1 s0 s1 s2 s3
  have hx56 := hx5.trans' hx6
  replace hS4 := hS4.ext hx56
  replace hA4 := hA4.ext hx56
  replace hT := hT.ext hx56
  obtain ⟨g6, hg6⟩ : ∃ g, W6.heap.size = g := ⟨_, rfl⟩
  have hx7 : Ext W6 (W6.alloc (.cells #[.int .u64 t.now, .int .u64 t.count, .slice A5 t.links.length c5, .slice A6 t.sess.length c6] 28)) := (Ext.rfl' _).alloc' _
  replace hS4 := hS4.ext hx7
  replace hA4 := hA4.ext hx7
  replace hT := hT.ext hx7
  have hrS := stE.ext (stE.ext hrep4' hx56) hx7
  have hrT := stE.ext (stE.ext hrepT hx56) hx7
  have hown7 := hown6.ext hx7
  have hxd := (hxc.trans' hx56).trans' hx7
  go_upto_region 5 with fail
  try rw [hg6]
  generalize (W6.alloc (.cells #[.int .u64 t.now, .int .u64 t.count, .slice A5 t.links.length c5, .slice A6 t.sess.length c6] 28)) = W7 at *
  obtain ⟨ad, a, rfl, ha, hb, p0, p1⟩ := an_atB hown7.sl (k := 0) (by decide)
  obtain rfl : (⟨0, [117]⟩ : An) = a := Option.some.inj ha.out
  simp only [Nat.zero_mul] at p0 p1
  have s0 := (hS4.cell 0).trans rfl
  have s1 := (hS4.cell 1).trans rfl
  have s2 := (hS4.cell 2).trans rfl
  have s3 := (hS4.cell 3).trans rfl
  have t0 := (hT.cell 0).trans rfl
  have t1 := (hT.cell 1).trans rfl
  have t2 := (hT.cell 2).trans rfl
  have t3 := (hT.cell 3).trans rfl
  have a0 := (hA4.cell 0).trans rfl
  have a1 := (hA4.cell 1).trans rfl
  have hml' := hml.out
  go_wp2_with fail
  refine (H5.out W7 _ _ z1S z1S hrS hrT).mono ?_
  rintro e W8 ⟨b8, rfl, hx8, hb8⟩
  obtain rfl : b8 = true := hb8.out.2 rfl
  replace hS4 := hS4.ext hx8
  replace hA4 := hA4.ext hx8
  have hown8 := hown7.ext hx8
  clear s0 s1 s2 s3 t0 t1 t2 t3 a0 a1 p0 p1
  have s0 := (hS4.cell 0).trans rfl
  have s1 := (hS4.cell 1).trans rfl
  have s2 := (hS4.cell 2).trans rfl
  have s3 := (hS4.cell 3).trans rfl
  go_wp2_with fail
  refine (H5.out W8 _ _ z1S z0S (stE.ext hrS hx8) (z0_rep W8 _)).mono ?_
  rintro e W9 ⟨b9, rfl, hx9, hb9⟩
  obtain rfl : b9 = false := by
    cases b9 with
    | false => rfl
    | true => exact absurd (hb9.out.1 rfl) (by simp)
  obtain ⟨ad2, a, hadd, ha2, hb2, p0, p1⟩ := an_atB (hown8.ext hx9).sl (k := 0) (by decide)
  obtain rfl : (⟨0, [117]⟩ : An) = a := Option.some.inj ha2.out
  obtain rfl := Option.some.inj hadd
  have ez : ad.add 0 = ad := by cases ad; unfold Addr.add; split <;> simp_all
  simp only [Nat.zero_mul, ez] at p0 p1
  go_wp2_with fail
  go_ret
  exact ⟨rfl, (hxd.trans' hx8).trans' hx9⟩
end Go.Proofs.YtamimdlaclglkaaGreat
namespace Go.Proofs.YtamimdlaclglkaaGreat
set_option linter.unusedVariables false
set_option linter.unusedSimpArgs false
set_option linter.unnecessarySimpa false
set_option maxRecDepth 100000
open Go.RowKit
/-- no Link, Session or Done begins in these cells -/
def NoS (cs : Array Value) : Prop := ∀ j, (∀ a b, cs[j]? = some (str a) → cs[j + 1]? = some (str b) → False) ∧ (∀ a b : Int, cs[j]? = some (.int .i64 a) → cs[j + 1]? = some (.int .u64 b) → False) ∧ (∀ a b : Int, cs[j]? = some (.int .u64 a) → cs[j + 1]? = some (.int .i64 b) → False)
theorem Sl.apartK {α : Type} {E : Enc α} {w : World} {X : Avoid} {v : Value} {l : List α} (h : Enc.Sl E w X v l) {g : Nat} {T : TypeId} {cs : Array Value} (hB : Blk w g T cs)
    (hk : ∀ {cs' a}, E.rep w X cs' a → ∃ u v, cs'[0]? = some u ∧ cs'[1]? = some v ∧ ∀ j, cs[j]? = some u → cs[j + 1]? = some v → False)
    (hw : ∀ {cs' a}, E.rep w X cs' a → E.rep w (fun k => X k ∨ k = g) cs' a) : Enc.Sl E w (fun k => X k ∨ k = g) v l := by
  obtain ⟨A', c', css, e, h1, h2, h3, h4, h5⟩ := id h
  refine ⟨A', c', css, e, h1, h2, h3, fun ad he h0 hx => hx.elim (h4 ad he h0) fun hg => ?_, ⟨h5.1, fun k cs a e1 e2 => hw (h5.2 k cs a e1 e2)⟩⟩
  subst e
  obtain ⟨ad2, cs', hA, hrep, -, hcell⟩ := h.at_ (k := 0) h0
  obtain ⟨u, v, hu, hv, hno⟩ := hk hrep
  rw [he] at hA
  obtain rfl := Option.some.inj hA
  subst hg
  have p0 := Enc.cell0 hcell hu
  have p1 := Enc.cellS hcell 0 hv
  simp only [Nat.zero_mul] at p0 p1
  have e0 : ad.add 0 = ad := by unfold Addr.add; simp
  rw [e0] at p0 p1
  have h7 : ∀ (a : Addr) v, a.block = ad.block → w.cell? a = some v → cs[a.off]? = some v := fun a v ha hv => by
    unfold World.cell? at hv
    unfold Blk at hB
    rw [ha, hB] at hv
    simp only at hv
    split at hv
    · cases hv
    · exact hv
  exact hno ad.off (h7 _ _ rfl p0) (h7 ⟨ad.block, ad.off + 1, none⟩ _ rfl p1)
theorem st_apartS {w : World} {X : Avoid} {x y u v : Value} {s : St} (h : stE.rep w X [x, y, u, v] s) {g : Nat} {T : TypeId} {cs : Array Value} (hB : Blk w g T cs) (hn : NoS cs) : stE.rep w (fun k => X k ∨ k = g) [x, y, u, v] s := by
  obtain ⟨vl, vs, hcs, h1, h2, h3, h4⟩ := st_rep.1 h
  simp only [stcells, List.cons.injEq, and_true] at hcs
  obtain ⟨rfl, rfl, rfl, rfl⟩ := hcs
  refine st_rep.2 ⟨_, _, rfl, h1, h2, ?_, ?_⟩
  · exact Sl.apartK h3 hB (fun hr => by
      obtain ⟨rfl, -⟩ := ln_rep.1 hr
      exact ⟨_, _, rfl, rfl, fun j => (hn j).1 _ _⟩) ln_flatO
  · exact Sl.apartK h4 hB (fun hr => by
      obtain ⟨v, rfl, -⟩ := se_rep.1 hr
      exact ⟨_, _, rfl, rfl, fun j => (hn j).2.1 _ _⟩) (fun hr => by
      obtain ⟨v, rfl, r1, r2, r3⟩ := se_rep.1 hr
      exact se_rep.2 ⟨v, rfl, r1, r2, Sl.apartK r3 hB (fun hr => by
        obtain ⟨rfl, -⟩ := dn_rep.1 hr
        exact ⟨_, _, rfl, rfl, fun j => (hn j).2.2 _ _⟩) (fun hr => dn_rep.2 (dn_rep.1 hr))⟩)
theorem nos4 : NoS #[.int .u64 0, .int .u64 0, .slice none 0 0, .slice none 0 0] := by
  intro j
  refine ⟨fun a b h h' => ?_, fun a b h h' => ?_, fun a b h h' => ?_⟩ <;> (rcases j with _ | _ | _ | _ | j <;> simp [str] at h h')
theorem nos4' (a b : Int) (A B : Option Addr) (n c m d : Nat) : NoS #[.int .u64 a, .int .u64 b, .slice A n c, .slice B m d] := by
  intro j
  refine ⟨fun a b h h' => ?_, fun a b h h' => ?_, fun a b h h' => ?_⟩ <;> (rcases j with _ | _ | _ | _ | j <;> simp [str] at h h')
end Go.Proofs.YtamimdlaclglkaaGreat
