import Derived.Test.YtboncnlcomeahaaPk31
/- store.Open. -/
namespace Go.Proofs.Ytboncnlcomeahaa
set_option linter.unusedVariables false
set_option linter.unusedSimpArgs false
set_option linter.unnecessarySimpa false
set_option maxRecDepth 100000
open Go.RowKit
theorem results_tct {P : Program} {fn : Func} {p u x : Tmp} {ty : TypeId} (h : fn.results = #[.tmp p, .cell u ty, .tmp x]) (tmps : Array Value) (w : World) (g : Nat) (t : TypeId) (cs : Array Value) (fr : Nat × Nat) (d : TypeDesc)
    (hp : tmps.getD u undef = .pointer (some ⟨g, 0, none⟩)) (hg : w.heap[g]? = some (.cells cs t fr))
    (hu : P.underlying ty = some d) (hd : (match d with | .struct _ | .array _ _ => true | _ => false) = true) (hi : (P.info? ty).map (·.size) = some cs.size) :
    (results fn tmps).run P w = .ok (.tuple #[tmps.getD p undef, .agg cs, tmps.getD x undef]) w := by
  have hp' : tmps[u]?.getD undef = .pointer (some ⟨g, 0, none⟩) := by simpa using hp
  simp only [results, h]
  simp [Sem.run_bind, hp', asAddr, run_loadVar_row w g t ty cs fr d hg hu hd hi]
theorem bsx_apart {w : World} {X : Avoid} {v : Value} {l : Bytes} {g : Nat} {T : TypeId} {cs : Array Value} (h : Enc.BsX w X v l) (hB : Blk w g T cs) (hn : ∀ (j : Nat) (x : Int), cs[j]? ≠ some (.int .u8 x)) : Enc.BsX w (fun j => X j ∨ j = g) v l := by
  refine ⟨h.1, fun ad n c he h0 hx => hx.elim (h.2 ad n c he h0) fun hg => ?_⟩
  subst he
  obtain ⟨hnl, -, -, hr⟩ := h.1.inv
  obtain ⟨ad', y, had, -, -, hc, -⟩ := Reads.byte hr (k := 0) (by omega)
  obtain rfl := Option.some.inj had
  have e0 : ad.add 0 = ad := by unfold Addr.add; simp
  rw [e0] at hc
  unfold World.cell? at hc
  unfold Blk at hB
  rw [hg, hB] at hc
  simp only at hc
  split at hc
  · cases hc
  · exact hn _ _ hc
theorem re_apart {w : World} {X : Avoid} {cs : List Value} {r : Rec} {g : Nat} {T : TypeId} {c : Array Value} (h : reE.rep w X cs r) (hB : Blk w g T c) (hn : ∀ (j : Nat) (x : Int), c[j]? ≠ some (.int .u8 x)) : reE.rep w (fun j => X j ∨ j = g) cs r := by
  obtain ⟨v1, v2, e, h1, h2, h3⟩ := re_rep.1 h
  exact re_rep.2 ⟨v1, v2, e, h1, bsx_apart h2 hB hn, bsx_apart h3 hB hn⟩
theorem slre_apart {w0 w : World} {X : Avoid} {v : Value} {l : List Rec} {g : Nat} {T : TypeId} {c : Array Value} (h : Own 38 reE w0 w X v l) (hB : Blk w g T c) (hT : 38 ≠ T) (hn : ∀ (j : Nat) (x : Int), c[j]? ≠ some (.int .u8 x)) : Own 38 reE w0 w (fun j => X j ∨ j = g) v l := by
  obtain ⟨css, h1, h2, h3⟩ := h
  refine ⟨css, h1, ⟨h2.1, fun k cs a e1 e2 => ?_⟩, fun k hk hx => hx.elim (h3 k hk) fun hg => own_blk_ne h1 hB hT (hg ▸ hk)⟩
  have h4 := re_apart (h2.2 k cs a e1 e2) hB hn
  exact reE.mono h4 fun j _ hj => by
    rcases hj with (hj | hj) | hj
    · exact .inl (.inl hj)
    · exact .inr hj
    · exact .inl (.inr hj)
theorem slen_apart {w0 w : World} {X : Avoid} {v : Value} {l : List En} {g : Nat} {T : TypeId} {c : Array Value} (h : Own 36 enE w0 w X v l) (hB : Blk w g T c) (hT : 36 ≠ T) (hn : ∀ (j : Nat) (x : Int), c[j]? ≠ some (.int .u8 x)) : Own 36 enE w0 w (fun j => X j ∨ j = g) v l := by
  obtain ⟨css, h1, h2, h3⟩ := h
  refine ⟨css, h1, ⟨h2.1, fun k cs a e1 e2 => ?_⟩, fun k hk hx => hx.elim (h3 k hk) fun hg => own_blk_ne h1 hB hT (hg ▸ hk)⟩
  obtain ⟨v1, e, h5, h6⟩ := en_rep.1 (h2.2 k cs a e1 e2)
  refine en_rep.2 ⟨v1, e, h5, (bsx_apart h6 hB hn).mono fun j _ hj => ?_⟩
  rcases hj with (hj | hj) | hj
  · exact .inl (.inl hj)
  · exact .inr hj
  · exact .inl (.inr hj)
theorem dcells_no8 (v : Value) (d : Dk) (hv : ∀ x, v ≠ .int .u8 x) : ∀ (j : Nat) (x : Int), (dcells v d)[j]? ≠ some (.int .u8 x) := by
  intro j x h
  rcases j with _ | _ | _ | _ | _ | _ | j <;> simp [dcells] at h
  exact hv x h
theorem zKept_no8 : ∀ (j : Nat) (x : Int), (#[.int .u64 0, .int .i64 0, .int .u64 0, .int .u64 0, .slice none 0 0, .slice none 0 0] : Array Value)[j]? ≠ some (.int .u8 x) := by
  intro j x h
  rcases j with _ | _ | _ | _ | _ | _ | j <;> simp at h
def openD (d : Dk) : Dk × Int := if (scan d.b).2 < d.b.length then d.op (lput (scan d.b).1).length (Dk.repl (lput (scan d.b).1)) id else (d, 0)
abbrev zKept : Array Value := #[.int .u64 0, .int .i64 0, .int .u64 0, .int .u64 0, .slice none 0 0, .slice none 0 0]
/-- what Open leaves -/
def RetOpen (w w' : World) (e : Ending) (gd : Nat) (d : Dk) (k : Kp) (er : Int) : Prop :=
  (er = 0 ∧ ∃ (gs : Nat) (v : Value) (As : Option Addr) (cs : Nat) (Ae : Option Addr) (ce : Nat) (Am : Option Addr) (cm : Nat) (Bm : Option Addr) (dm : Nat), e = .returned (.tuple #[.pointer (some ⟨gs, 0, none⟩), .agg #[.int .u64 k.hard.term, .int .i64 k.hard.vote, .int .u64 k.snap.index, .int .u64 k.snap.term, .slice Am k.snap.state.length cm, .slice Bm k.ents.length dm], .int .i64 0]) ∧
    StD w' gs gd k d v As cs Ae ce ∧ w.heap.size ≤ gs ∧ Bs w' (.slice Am k.snap.state.length cm) k.snap.state ∧ Enc.Sl enE w' noneAt (.slice Bm k.ents.length dm) k.ents ∧ Chg [gd] w w') ∨
  (er ≠ 0 ∧ e = .returned (.tuple #[.pointer none, .agg zKept, .int .i64 er]) ∧ ∃ v, DiskAt w' gd v d ∧ Chg [gd] w w')
/-- what Open leaves; the answer lies apart of the store and its disk -/
def RetOpen2 (w w' : World) (e : Ending) (gd : Nat) (d : Dk) (k : Kp) (er : Int) : Prop :=
  (er = 0 ∧ ∃ (gs : Nat) (v : Value) (As : Option Addr) (cs : Nat) (Ae : Option Addr) (ce : Nat) (Am : Option Addr) (cm : Nat) (Bm : Option Addr) (dm : Nat), e = .returned (.tuple #[.pointer (some ⟨gs, 0, none⟩), .agg #[.int .u64 k.hard.term, .int .i64 k.hard.vote, .int .u64 k.snap.index, .int .u64 k.snap.term, .slice Am k.snap.state.length cm, .slice Bm k.ents.length dm], .int .i64 0]) ∧
    StD w' gs gd k d v As cs Ae ce ∧ w.heap.size ≤ gs ∧ Enc.BsX w' (XS gs gd) (.slice Am k.snap.state.length cm) k.snap.state ∧ Enc.Sl enE w' (XS gs gd) (.slice Bm k.ents.length dm) k.ents ∧ Chg [gd] w w') ∨
  (er ≠ 0 ∧ e = .returned (.tuple #[.pointer none, .agg zKept, .int .i64 er]) ∧ ∃ v, DiskAt w' gd v d ∧ Chg [gd] w w')
set_option maxHeartbeats 12800000 in
theorem open2_b (gd : Nat) (v : Value) (d : Dk) (n : Nat) (w : World) (hD : DiskAt w gd v d) (hde : d.de = false) (hv : ∀ j, v.ownBlock = some j → j < w.heap.size) (hs : ∀ r ∈ (scan d.b).1, r.small) (hn : (scan d.b).1.length ≤ n) (hn2 : n ≤ 900) (hbl : d.b.length ≤ 100000) :
    Calls Try.prog 19 #[.pointer (some ⟨gd, 0, none⟩)] w fun e w' => RetOpen2 w w' e gd (openD d).1 (kfold Kp0 (scan d.b).1) (openD d).2 := by
  have hR_ := Blk.new w 33 zKept
  have hxw : Ext w (w.alloc (.cells zKept 33)) := (Ext.rfl' _).alloc' _
  obtain ⟨g, hg⟩ : ∃ g, w.heap.size = g := ⟨_, rfl⟩
  rw [hg] at hR_
  have hgdg : gd < g := by rw [← hg]; exact hD.blk.lt
  obtain ⟨od, hod⟩ : ∃ q, openD d = q := ⟨_, rfl⟩
  rw [hod]
  have HOD := hide hod
  clear hod
  obtain ⟨k, hk⟩ : ∃ k, kfold Kp0 (scan d.b).1 = k := ⟨_, rfl⟩
  rw [hk]
  have HK := hide hk
  clear hk
  go_enter Try.func19, Try.ntmps19
  go_upto_region 1 with fail
  generalize w.alloc (.cells zKept 33) = w1 at *
  try rw [hg]
  have hr1 := hR_.lt
  have hD1 := hD.ext hxw
  go_wp2_with fail
  refine (disk_read gd v d w1 hD1 hde).mono ?_
  rintro e w2 ⟨y, rfl, hy, hx2⟩
  obtain ⟨Ay, cy, rfl, -, -, -⟩ := id hy.bs
  go_wp2_with fail
  refine (scan_b (.slice Ay d.b.length cy) d.b w2 hbl hy.bs).mono ?_
  rintro e w3 ⟨l, Al, cl, m, hlm, rfl, hlo, hx3⟩
  have hl1 : l = (scan d.b).1 := congrArg Prod.fst hlm.out
  have hm1 : m = (scan d.b).2 := congrArg Prod.snd hlm.out
  have hls : ∀ r ∈ l, r.wide ∧ r.small := fun r hr => ⟨Sl.wides hlo.sl r hr, hs r (by rw [← hl1]; exact hr)⟩
  have hln : l.length ≤ n := by rw [hl1]; exact hn
  have HOD2 : Hid (od = if m < d.b.length then d.op (lput l).length (Dk.repl (lput l)) id else (d, 0)) := hide (by rw [← HOD.out, hl1, hm1]; rfl)
  have HK2 : Hid (kfold Kp0 l = k) := hide (by rw [← HK.out, hl1])
  clear hl1 hm1
  have hx13 := hx2.trans' hx3
  have hD3 := hD1.ext hx13
  have hsz3 := hx13.size
  have hsl := hlo.sl
  have hlow : ∀ j, (Value.slice Al l.length cl).ownBlock = some j → w1.heap.size ≤ j := fun j hj => by have := (hlo.lt j hj).1; have := hx2.size; omega
  have hR3 := hR_.ext hx13
  have hvs : ∀ x, v ≠ .int .u8 x := fun x hv => by obtain ⟨A, c, e, -⟩ := hD.bs; rw [e] at hv; cases hv
  have hslX : Enc.Sl reE w3 (fun j => (noneAt j ∨ j = gd) ∨ j = g) (.slice Al l.length cl) l := (slre_apart (slre_apart hlo hD3.blk (by decide) (dcells_no8 v d hvs)) hR3 (by decide) zKept_no8).sl
  have hgg : g < w1.heap.size := hr1
  go_upto_if 31 with fail
  go_cut [] (fun wx => ∃ v', od.2 = 0 ∧ DiskAt wx gd v' od.1 ∧ Chg [gd] w3 wx ∧ ∀ j, v'.ownBlock = some j → v.ownBlock = some j ∨ (w3.heap.size ≤ j ∧ j < wx.heap.size))
  case first =>
    by_cases hlt : (m : Int) < d.b.length
    · have HO : Hid (od = d.op (lput l).length (Dk.repl (lput l)) id) := hide (by rw [HOD2.out, if_pos (by omega)])
      go_wp2_with fail
      refine (lputs_b (.slice Al l.length cl) l w3 (by omega) hsl hls).mono ?_
      rintro e w4 ⟨m2, A2, c2, hm2, rfl, ha2, hx4⟩
      obtain rfl : m2 = lput l := hm2.out
      have hll := lput_len (l := l) fun r hr => (hls r hr).2
      go_wp2_with fail
      refine (disk_replace gd v (.slice A2 (lput l).length c2) d (lput l) w4 (hD3.ext hx4) ha2.bs (ha2.off (fun j hj => by have := List.mem_singleton.1 hj; omega)) (by omega)).mono ?_
      rintro e w5 ⟨rfl, v', hd5, hc5, hn5⟩
      rw [← HO.out] at hd5 ⊢
      have hn6 : ∀ j, v'.ownBlock = some j → v.ownBlock = some j ∨ (w3.heap.size ≤ j ∧ j < w5.heap.size) := fun j hj => (hn5 j hj).imp id fun h => by have := hx4.size; omega
      rcases Bool.eq_false_or_eq_true (od.2 == 0) with he | he
      · go_wp2_with fail
        go_meet
        case rel => exact ⟨v', by simpa using he, hd5, (hx4.chg _).trans hc5, hn6⟩
      · have hR5 := (hR3.ext hx4).chg hc5 (by simp; omega)
        have r0 := (hR5.cell 0).trans rfl
        have f0 := hR5.frozen 0
        have r1 := (hR5.cell 1).trans rfl
        have f1 := hR5.frozen 1
        have r2 := (hR5.cell 2).trans rfl
        have f2 := hR5.frozen 2
        have r3 := (hR5.cell 3).trans rfl
        have f3 := hR5.frozen 3
        have r4 := (hR5.cell 4).trans rfl
        have f4 := hR5.frozen 4
        have r5 := (hR5.cell 5).trans rfl
        have f5 := hR5.frozen 5
        go_wp2
        try simp only [Exit.inBlock, Exit.then]
        refine bodyPost_ret (results_tct rfl _ _ g 33 zKept (0, 0) _ rfl (Blk.sixK hR5 (.int .u64 0) (.int .i64 0) (.int .u64 0) (.int .u64 0) (.slice none 0 0) (.slice none 0 0)) Try.underlying33 rfl (by kernel_rfl)) rfl ?_
        have hcf : Chg [g] w5 _ := (Chg.refl [g] w5).sixK (g := g) (by simp) (.int .u64 0) (.int .i64 0) (.int .u64 0) (.int .u64 0) (.slice none 0 0) (.slice none 0 0)
        exact .inr ⟨by simpa using he, rfl, v', hd5.chg hcf (by simp; omega) (Off.of_own fun j hj hm => by have := List.mem_singleton.1 hm; rcases hn6 j hj with h | h; (have := hv j h; omega); omega), ((((hxw.trans' hx13).trans' hx4).chg [gd]).trans hc5).then_new hcf (by simp; omega)⟩
    · have HO : Hid (od = (d, 0)) := hide (by rw [HOD2.out, if_neg (by omega)])
      go_wp2_with fail
      go_meet
      case rel => exact ⟨v, by rw [HO.out], by rw [HO.out]; exact hD3, Chg.refl _ _, fun j hj => .inl hj⟩
  case rest =>
    obtain ⟨v', he0, hD5, hc5, hn5⟩ := hcut
    have hR5 := hR3.chg hc5 (by simp; omega)
    have hsl5 := (hslX.chg hc5 (fun j hj _ => .inl (.inr (List.mem_singleton.1 hj)))).mono (Y := fun j => j = gd ∨ j = g) (fun j _ h => h.elim (fun h => .inl (.inr h)) .inr)
    have hcw : Chg [gd] w wc := ((hxw.trans' hx13).chg [gd]).trans hc5
    have hsz5 := hc5.size
    have hv5 : ∀ j, v'.ownBlock = some j → j < w.heap.size ∨ (w3.heap.size ≤ j ∧ j < wc.heap.size) := fun j hj => (hn5 j hj).imp (hv j) id
    generalize wc = w6 at *
    have hF := hide (fun W (hx : Ext w6 W) => fold_b (fun j => j = gd ∨ j = g) Kp0 (.slice none 0 0) (.slice none 0 0) (.slice Al l.length cl) l 0 W (fun j hj => by have := hx.size; rcases hj with h | h <;> omega) Kp0.wide_ Kp0.small_ (Enc.BsX.nil _ _) (Enc.Sl.nil _ _ _) (hsl5.ext hx) hls (by omega))
    rw [HK2.out] at hF
    have hkw : k.wide := by rw [← HK2.out]; exact Kp.wide.fold l Kp0.wide_ fun r hr => (hls r hr).1
    have hks : k.small n := by rw [← HK2.out]; exact (Kp.small.fold l Kp0.small_ fun r hr => (hls r hr).2).mono (by omega)
    go_wp2_with fail
    refine (hF.out _ (Ext.rfl' _)).mono ?_
    rintro e w7 ⟨An, cn, Bn, dn, rfl, hnb, hno, hx7⟩
    obtain ⟨gs, hgs⟩ : ∃ g_, w7.heap.size = g_ := ⟨_, rfl⟩
    have hS := Blk.new w7 90 #[.pointer (some ⟨gd, 0, none⟩), .int .u64 k.hard.term, .int .i64 k.hard.vote, .int .u64 k.snap.index, .int .u64 k.snap.term, .slice An k.snap.state.length cn, .slice Bn k.ents.length dn]
    rw [hgs] at hS
    have hz : Ext w7 (w7.alloc (.cells #[.pointer (some ⟨gd, 0, none⟩), .int .u64 k.hard.term, .int .i64 k.hard.vote, .int .u64 k.snap.index, .int .u64 k.snap.term, .slice An k.snap.state.length cn, .slice Bn k.ents.length dn] 90)) := (Ext.rfl' _).alloc' _
    have hgs6 : w6.heap.size ≤ gs := by rw [← hgs]; exact hx7.size
    have hnb' := (hnb.mono (Y := fun j => (j = gs ∨ j = gd) ∨ j = g) (fun j hj h => by
      rcases h with (h | h) | h
      · omega
      · exact .inl (.inl h)
      · exact .inl (.inr h))).ext hz
    have hno' := (hno.sl.mono (Y := fun j => (j = gs ∨ j = gd) ∨ j = g) (fun j hj h => by
      rcases h with (h | h) | h
      · omega
      · exact .inl h
      · exact .inr h)).ext hz
    go_upto_region 12 with fail
    try rw [hgs]
    generalize (w7.alloc (.cells #[.pointer (some ⟨gd, 0, none⟩), .int .u64 k.hard.term, .int .i64 k.hard.vote, .int .u64 k.snap.index, .int .u64 k.snap.term, .slice An k.snap.state.length cn, .slice Bn k.ents.length dn] 90)) = w8 at *
    have hx8 := hx7.trans' hz
    have hSo : SoAt w8 gs gd k An cn Bn dn := ⟨hS, hnb'.mono fun _ _ h => .inl h, hno'.mono fun _ _ h => .inl h⟩
    have hD8 := hD5.ext hx8
    have hgd8 : gd < w8.heap.size := hD8.blk.lt
    go_wp2_with fail
    refine (kept_b gs gd k An Bn cn dn n w8 hSo hkw hks (by omega) hgd8).mono ?_
    rintro e w9 ⟨Am, cm, Bm, dm, rfl, hmb, hmo, hx9⟩
    have hR9 := hR5.ext (hx8.trans' hx9)
    have r0 := (hR9.cell 0).trans rfl
    have r1 := (hR9.cell 1).trans rfl
    have r2 := (hR9.cell 2).trans rfl
    have r3 := (hR9.cell 3).trans rfl
    have r4 := (hR9.cell 4).trans rfl
    have r5 := (hR9.cell 5).trans rfl
    have f0 := hR9.frozen 0
    have f1 := hR9.frozen 1
    have f2 := hR9.frozen 2
    have f3 := hR9.frozen 3
    have f4 := hR9.frozen 4
    have f5 := hR9.frozen 5
    go_wp2
    try simp only [Exit.inBlock, Exit.then]
    have hcf : Chg [g] w9 _ := (Chg.refl [g] w9).sixK (g := g) (by simp) (.int .u64 k.hard.term) (.int .i64 k.hard.vote) (.int .u64 k.snap.index) (.int .u64 k.snap.term) (.slice Am k.snap.state.length cm) (.slice Bm k.ents.length dm)
    refine bodyPost_ret (results_tct rfl _ _ g 33 #[.int .u64 k.hard.term, .int .i64 k.hard.vote, .int .u64 k.snap.index, .int .u64 k.snap.term, .slice Am k.snap.state.length cm, .slice Bm k.ents.length dm] (0, 0) _ rfl (Blk.sixK hR9 _ _ _ _ _ _) Try.underlying33 rfl (by kernel_rfl)) rfl ?_
    have hsz9 := (hx8.trans' hx9).size
    have hvg : ∀ j, v'.ownBlock = some j → j ≠ g ∧ j ≠ gs := fun j hj => by
      rcases hv5 j hj with h | h
      · omega
      · omega
    refine .inl ⟨he0, gs, v', An, cn, Bn, dn, Am, cm, Bm, dm, rfl, ⟨(hD8.ext hx9).chg hcf (by simp; omega) (Off.of_own fun j hj hm => (hvg j hj).1 (List.mem_singleton.1 hm)), ⟨(hSo.blk.ext hx9).chg hcf (by simp; omega), ((hnb'.ext hx9).chg hcf (fun j hj _ => .inr (List.mem_singleton.1 hj))).mono (fun j _ h => .inl h), ((hno'.ext hx9).chg hcf (fun j hj _ => .inr (List.mem_singleton.1 hj))).mono (fun j _ h => .inl h)⟩, by omega, fun j hj => (hvg j hj).2, hkw, fun j hj => by have := hcf.size; rcases hv5 j hj with h | h <;> omega⟩, by omega, ?_, ?_, ?_⟩
    · exact ((bsx_apart hmb hR9 zKept_no8).chg hcf (fun j hj _ => .inr (List.mem_singleton.1 hj))).mono (fun j _ h => .inl (.inl h))
    · exact ((slen_apart hmo hR9 (by decide) zKept_no8).sl.chg hcf (fun j hj _ => .inr (List.mem_singleton.1 hj))).mono (fun j _ h => .inl h)
    · exact (hcw.trans ((hx8.trans' hx9).chg [gd])).then_new hcf (by simp; omega)
theorem open_b (gd : Nat) (v : Value) (d : Dk) (n : Nat) (w : World) (hD : DiskAt w gd v d) (hde : d.de = false) (hv : ∀ j, v.ownBlock = some j → j < w.heap.size) (hs : ∀ r ∈ (scan d.b).1, r.small) (hn : (scan d.b).1.length ≤ n) (hn2 : n ≤ 900) (hbl : d.b.length ≤ 100000) :
    Calls Try.prog 19 #[.pointer (some ⟨gd, 0, none⟩)] w fun e w' => RetOpen w w' e gd (openD d).1 (kfold Kp0 (scan d.b).1) (openD d).2 := by
  refine (open2_b gd v d n w hD hde hv hs hn hn2 hbl).mono ?_
  rintro e w' (⟨h1, gs, v', As, cs, Ae, ce, Am, cm, Bm, dm, h2, h3, h4, h5, h6, h7⟩ | h)
  · exact .inl ⟨h1, gs, v', As, cs, Ae, ce, Am, cm, Bm, dm, h2, h3, h4, h5.1, slN h6, h7⟩
  · exact .inr h
end Go.Proofs.Ytboncnlcomeahaa

/- The statements' own: does store do anything yet? In plain Lean. -/
namespace Go.Proofs.Ytboncnlcomeahaa
set_option linter.unusedVariables false
set_option linter.unusedSimpArgs false
set_option linter.unnecessarySimpa false
set_option maxRecDepth 100000
open Go.RowKit
theorem scan_lput {l : List Rec} (h : ∀ r ∈ l, r.wide ∧ r.small) : scan (lput l) = (right l, (lput l).length) := by
  have := scan_put l [] h
  rw [List.append_nil, scan_nil] at this
  simpa using this
/-- a disk that lives, and whose bytes all last -/
structure Dk.live (d : Dk) (bs : Bytes) : Prop where
  b : d.b = bs
  sy : d.sy = bs.length
  de : d.de = false
  ar : d.ar = false
theorem Dk.live.op {d : Dk} {b : Bytes} (h : d.live b) (size : Int) (hs : size ≤ 200000) (whole half : Dk → Dk) : d.op size whole half = (whole d, 0) := by
  unfold Dk.op
  rw [if_neg (by simp [h.de]), if_neg (by omega), if_neg (by simp [h.ar])]
  rw [if_neg (by simp [h.ar])]
theorem live_new : Dk.new.live [] := ⟨rfl, rfl, rfl, rfl⟩
theorem Dk.live.crash {d : Dk} {b : Bytes} (h : d.live b) (p : Int) : (d.crash p).power.live b := by
  have hb : (d.cut p).b = b := by
    unfold Dk.cut Dk.left
    simp only
    rw [h.b, h.sy]
    have : ((b.length : Int) + max 0 (min p (b.length - b.length))).toNat = b.length := by omega
    rw [this, List.take_length]
  exact ⟨hb, by show ((d.cut p).b.length : Int) = _; rw [hb], rfl, rfl⟩
theorem Dk.live.open_ {d : Dk} {l : List Rec} (h : d.live (lput l)) (hl : ∀ r ∈ l, r.wide ∧ r.small) : openD d = (d, 0) ∧ scan d.b = (right l, (lput l).length) := by
  have hs : scan d.b = (right l, (lput l).length) := by rw [h.b, scan_lput hl]
  refine ⟨?_, hs⟩
  unfold openD
  rw [if_neg (by rw [hs, h.b]; simp)]
/-- what lies on the disk behind a saving of records that may be -/
theorem lput_apps (l m : List Rec) : lput (l ++ m) = lput l ++ lput m := lput_app l m
theorem save_live {d : Dk} {k : Kp} {b : Bytes} {l : List Rec} (h : d.live b) (hne : l ≠ []) (hns : l.any isSnap = false) (hb : (b.length : Int) + (lput l).length ≤ 200000) :
    (save d k l).2 = (kfold k l, 0) ∧ (save d k l).1.live (b ++ lput l) := by
  have e1 := h.op (d.b.length + (lput l).length) (by rw [h.b]; exact hb) (Dk.app (lput l)) (Dk.app (lput l))
  have hd2 : saveD d l (kfold k l) = ((d.app (lput l)).last, 0) := by
    unfold saveD
    rw [if_neg (by simp [hns]), e1]
    simp only [if_true]
    unfold Dk.op
    have hde : (d.app (lput l)).de = false := h.de
    have har : (d.app (lput l)).ar = false := h.ar
    rw [if_neg (by simp [hde]), if_neg (by omega), if_neg (by simp [har]), if_neg (by simp [har])]
  unfold save
  rw [if_neg hne, hd2]
  refine ⟨by simp, ⟨by show d.b ++ lput l = _; rw [h.b], by show ((d.b ++ lput l).length : Int) = _; rw [h.b], h.de, h.ar⟩⟩
theorem save_snap {d : Dk} {k : Kp} {b : Bytes} {l : List Rec} (h : d.live b) (hs : l.any isSnap = true) (hb : ((lput (krecs (kfold k l))).length : Int) ≤ 200000) :
    (save d k l).2 = (kfold k l, 0) ∧ (save d k l).1.live (lput (krecs (kfold k l))) := by
  have e1 := h.op (lput (krecs (kfold k l))).length hb (Dk.repl (lput (krecs (kfold k l)))) id
  have hd2 : saveD d l (kfold k l) = (d.repl (lput (krecs (kfold k l))), 0) := by
    unfold saveD
    rw [if_pos hs, e1]
  unfold save
  rw [if_neg (by rintro rfl; simp at hs), hd2]
  exact ⟨by simp, ⟨rfl, rfl, h.de, h.ar⟩⟩
def rA : Rec := ⟨1, ⟨3, 1⟩, En0, 0, Sn0⟩
def rB : Rec := ⟨2, Hd0, ⟨3, []⟩, 0, Sn0⟩
def rC : Rec := ⟨3, Hd0, En0, 1, Sn0⟩
def kAB : Kp := ⟨⟨3, 1⟩, Sn0, [⟨3, []⟩]⟩
theorem rAB_ok : ∀ r ∈ [rA, rB], r.wide ∧ r.small := by
  intro r hr
  simp only [List.mem_cons, List.not_mem_nil, or_false] at hr
  rcases hr with rfl | rfl
  · exact ⟨by constructor <;> simp [rA, En0, Sn0], by constructor <;> simp [rA, En0, Sn0]⟩
  · exact ⟨by constructor <;> simp [rB, Hd0, Sn0], by constructor <;> simp [rB, Sn0]⟩
theorem rC_ok : ∀ r ∈ [rC], r.wide ∧ r.small := by
  intro r hr
  rw [List.mem_singleton.1 hr]
  exact ⟨by constructor <;> simp [rC, Hd0, En0, Sn0], by constructor <;> simp [rC, En0, Sn0]⟩
theorem rAB_right : right [rA, rB] = [rA, rB] := by rfl
theorem rAB_fold : kfold Kp0 [rA, rB] = kAB := by rfl
theorem rC_fold : kfold kAB [rC] = ⟨⟨3, 1⟩, Sn0, []⟩ := by rfl
theorem kAB_recs : (krecs kAB).length = 2 := by rfl
theorem kAB_small : kAB.small 1 := ⟨by simp [kAB], by simp [kAB], by simp [kAB, Sn0]⟩
theorem lenAB : (lput [rA, rB]).length ≤ 170 := lput_len (l := [rA, rB]) fun r hr => (rAB_ok r hr).2
end Go.Proofs.Ytboncnlcomeahaa

