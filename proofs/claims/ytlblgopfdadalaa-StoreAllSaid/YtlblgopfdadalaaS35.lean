/- A part of the proof of 'StoreAll'. -/
import Derived.Test.YtlblgopfdadalaaS34
import Derived.Test.YtlblgopfdadalaaS29
import Derived.Test.YtlblgopfdadalaaS1
namespace Go.Proofs.Ytlblgopfdadalaa
set_option linter.unusedVariables false
set_option linter.unusedSimpArgs false
set_option linter.unnecessarySimpa false
set_option maxRecDepth 100000
open Go.RowKit
theorem kcells7_no8 (p : Value) (hp : ∀ x, p ≠ .int .u8 x) (a b c d : Int) (A B : Option Addr) (n m i j : Nat) : ∀ (q : Nat) (x : Int), (#[p, .int .u64 a, .int .i64 b, .int .u64 c, .int .u64 d, .slice A n i, .slice B m j] : Array Value)[q]? ≠ some (.int .u8 x) := by
  intro q x h
  rcases q with _ | _ | _ | _ | _ | _ | _ | q <;> simp at h
  exact hp x h
theorem SoAt.odd {w : World} {gs gd : Nat} {k : Kp} {As Ae : Option Addr} {cs ce : Nat} (h : SoAt w gs gd k As cs Ae ce) : Odd w (fun j => j = gs) := fun j hj => by
  subst hj
  exact ⟨_, _, h.blk, by decide, by decide, kcells7_no8 _ (by simp) _ _ _ _ _ _ _ _ _ _⟩
theorem RSoAt.odd {w : World} {gs gd : Nat} {k : Kp} {As Ae : Option Addr} {cs ce : Nat} (h : RSoAt w gs gd k As cs Ae ce) : Odd w (fun j => j = gs) := fun j hj => by
  subst hj
  exact ⟨_, _, h.blk, by decide, by decide, kcells7_no8 _ (by simp) _ _ _ _ _ _ _ _ _ _⟩
section
variable {w0 w w' : World} {gs gd rs rd : Nat} {k k2 : Kp} {d r d' r' : Dk}
/-- the program's store is opened anew, while a block gk is new, which is written then -/
theorem TwoSt.open_ (h : TwoSt w0 w gs gd rs rd k k2 d r) (gk : Nat) (w2 : World) (hz : Ext w w2) (hgk : w.heap.size ≤ gk) (hgO : Odd w2 (fun j => j = gk)) (n : Nat) (k' : Kp) (hde : d.de = false) (hk : kfold Kp0 (scan d.b).1 = k') (hs : ∀ r ∈ (scan d.b).1, r.small) (hn : (scan d.b).1.length ≤ n) (hn2 : n ≤ 900) (hbl : d.b.length ≤ 100000) (ho : openD d = (d', 0)) :
    Calls Try.prog 17 #[.pointer (some ⟨gd, 0, none⟩)] w2 fun e w' => ∃ (gs' : Nat) (Am : Option Addr) (cm : Nat) (Bm : Option Addr) (dm : Nat), e = .returned (.tuple #[.pointer (some ⟨gs', 0, none⟩), .agg (kpcells k' (.slice Am k'.snap.state.length cm) (.slice Bm k'.ents.length dm)).toArray, .int .i64 0]) ∧ Chg [gd] w2 w' ∧ gk ≠ gd ∧
      ∀ w4, Chg [gk] w' w4 → TwoSt w0 w4 gs' gd rs rd k' k2 d' r ∧ Enc.BsX w4 (XS rs rd) (.slice Am k'.snap.state.length cm) k'.snap.state ∧ Enc.Sl enE w4 (XS rs rd) (.slice Bm k'.ents.length dm) k'.ents := by
  obtain ⟨v, As, cs, Ae, ce, u, Bs', bs, Be, c4, p, q, ⟨p1, p2, p3⟩, ⟨q1, q2, q3⟩, hx0, hb, hnn⟩ := h
  have hrs := q.so.blk.lt
  have hrd := q.disk.blk.lt
  have hgd := p.disk.blk.lt
  have hz2 := hz.size
  have hgk2 : gk < w2.heap.size := by
    obtain ⟨T, cs, h1, -⟩ := hgO gk rfl
    exact h1.lt
  have hO := open3_b (fun j => XS rs rd j ∨ j = gk) gd v d n w2 (p.disk.ext hz) (Odd.or (Odd.or (q.so.odd.ext hz) (q.disk.odd.ext hz)) hgO) (by rintro ((h | h) | h) <;> omega) hde (fun j hj => Nat.lt_of_lt_of_le (p.lt j hj) hz2) hs hn hn2 hbl
  rw [hk, ho] at hO
  refine hO.mono ?_
  rintro e w' (⟨-, gs', v', As', cs', Ae', ce', Am, cm, Bm, dm, rfl, hp, hgs, ha1, ha2, hx1, hx2, hc, hv⟩ | ⟨h, -⟩)
  case inr => exact absurd rfl h
  obtain ⟨hq, hq1, hq2⟩ := (q.ext hz).off_ hc (S := [gd]) (X := fun j => XS gs' gd j ∨ j = gk) (by simp; exact fun h => hnn.2.2.1 h.symm) (by simp; exact fun h => hnn.2.2.2 h.symm) (fun j hj _ => .inl (.inr (List.mem_singleton.1 hj)))
    ((q1.mono (Y := fun j => XS gs' gd j ∨ j = gk) fun j hj h => by rcases h with (h | h) | h; omega; exact .inr h; omega).ext hz) ((q2.mono (Y := fun j => XS gs' gd j ∨ j = gk) fun j hj h => by rcases h with (h | h) | h; omega; exact .inr h; omega).ext hz) (fun j hj hm => q3 j hj (.inr (List.mem_singleton.1 hm)))
  refine ⟨gs', Am, cm, Bm, dm, rfl, hc, by omega, fun w4 hc4 => ?_⟩
  have hv' : ∀ j, v'.ownBlock = some j → j ≠ gk := fun j hj => by
    rcases hv j hj with h4 | h4
    · have := p.lt j h4; omega
    · omega
  obtain ⟨hp4, hp41, hp42⟩ := hp.off_ hc4 (S := [gk]) (X := fun j => XS rs rd j ∨ j = gk) (by simp; omega) (by simp; omega) (fun j hj _ => .inr (List.mem_singleton.1 hj)) hx1 hx2 (fun j hj hm => hv' j hj (List.mem_singleton.1 hm))
  obtain ⟨hq4, hq41, hq42⟩ := hq.off_ hc4 (S := [gk]) (X := fun j => XS gs' gd j ∨ j = gk) (by simp; omega) (by simp; omega) (fun j hj _ => .inr (List.mem_singleton.1 hj)) hq1 hq2 (fun j hj hm => by have := q.lt j hj; have := List.mem_singleton.1 hm; omega)
  refine ⟨⟨v', As', cs', Ae', ce', u, Bs', bs, Be, c4, hp4, hq4, ⟨hp41.mono fun _ _ h => .inl h, hp42.mono fun _ _ h => .inl h, fun j hj hX => ?_⟩, ⟨hq41.mono fun _ _ h => .inl h, hq42.mono fun _ _ h => .inl h, fun j hj hX => ?_⟩, ((hx0.trans' hz).then_ hc (by simpa using hb.2.1)).then_ hc4 (by have := hx0.size; simp; omega), ⟨by have := hx0.size; omega, hb.2⟩, by omega, by omega, hnn.2.2⟩, (ha1.chg hc4 (fun j hj _ => .inr (.inr (List.mem_singleton.1 hj)))).mono (fun _ _ h => .inr (.inl h)), (ha2.chg hc4 (fun j hj _ => .inr (.inr (List.mem_singleton.1 hj)))).mono (fun _ _ h => .inr (.inl h))⟩
  · rcases hv j hj with h4 | h4
    · exact p3 j h4 hX
    · rcases hX with h5 | h5 <;> omega
  · have := q.lt j hj
    rcases hX with h5 | h5
    · omega
    · exact q3 j hj (.inr h5)
/-- the document's store is opened anew -/
theorem TwoSt.ropen_ (h : TwoSt w0 w gs gd rs rd k k2 d r) (n : Nat) (k' : Kp) (hde : r.de = false) (hk : kfold Kp0 (scan r.b).1 = k') (hs : ∀ q ∈ (scan r.b).1, q.small) (hn : (scan r.b).1.length ≤ n) (hn2 : n ≤ 900) (hbl : r.b.length ≤ 100000) (ho : ropenD r = (r', 0)) :
    Calls Try.prog 18 #[.pointer (some ⟨rd, 0, none⟩)] w fun e w' => ∃ rs' : Nat, e = .returned (.tuple #[.pointer (some ⟨rs', 0, none⟩), .int .i64 0]) ∧ TwoSt w0 w' gs gd rs' rd k k' d r' ∧ Chg [rd] w w' := by
  obtain ⟨v, As, cs, Ae, ce, u, Bs', bs, Be, c4, p, q, ⟨p1, p2, p3⟩, ⟨q1, q2, q3⟩, hx0, hb, hnn⟩ := h
  have hO := ropen_b (XS gs gd) rd u r n w q.disk (Odd.or p.so.odd p.disk.odd) hde q.lt hs hn hn2 hbl
  rw [hk, ho] at hO
  refine hO.mono ?_
  rintro e w' (⟨-, rs', u', As', cs', Ae', ce', rfl, hq, hrs, hx1, hx2, hc, hv⟩ | ⟨h, -⟩)
  case inr => exact absurd rfl h
  have hgs := p.so.blk.lt
  have hgd := p.disk.blk.lt
  have hrd := q.disk.blk.lt
  obtain ⟨hp, hp1, hp2⟩ := p.off_ hc (S := [rd]) (X := XS rs' rd) (by simp; exact hnn.2.1) (by simp; exact hnn.2.2.2) (fun j hj _ => .inr (List.mem_singleton.1 hj)) (p1.mono fun j hj h => h.elim (fun h => by omega) .inr) (p2.mono fun j hj h => h.elim (fun h => by omega) .inr) (fun j hj hm => p3 j hj (.inr (List.mem_singleton.1 hm)))
  refine ⟨rs', rfl, ⟨v, As, cs, Ae, ce, u', As', cs', Ae', ce', hp, hq, ⟨hp1, hp2, fun j hj hX => ?_⟩, ⟨hx1, hx2, fun j hj hX => ?_⟩, hx0.then_ hc (by simpa using hb.2.2.2), ⟨hb.1, hb.2.1, by have := hx0.size; omega, hb.2.2.2⟩, by omega, hnn.2.1, by omega, hnn.2.2.2⟩, hc⟩
  · have := p.lt j hj
    rcases hX with h5 | h5
    · omega
    · exact p3 j hj (.inr h5)
  · rcases hv j hj with h4 | h4
    · exact q3 j h4 hX
    · rcases hX with h5 | h5 <;> omega
/-- what the stores keep -/
theorem TwoSt.kept_ (h : TwoSt w0 w gs gd rs rd k k2 d r) (n : Nat) (hks : k.small n) (hn : n ≤ 1000) :
    Calls Try.prog 25 #[.pointer (some ⟨gs, 0, none⟩)] w fun e w' => ∃ (Am : Option Addr) (cm : Nat) (Bm : Option Addr) (dm : Nat), e = .returned (.agg (kpcells k (.slice Am k.snap.state.length cm) (.slice Bm k.ents.length dm)).toArray) ∧
      Bs w' (.slice Am k.snap.state.length cm) k.snap.state ∧ Own 74 enE w w' noneAt (.slice Bm k.ents.length dm) k.ents ∧ Ext w w' := by
  obtain ⟨v, As, cs, Ae, ce, u, Bs', bs, Be, c4, p, q, ⟨p1, p2, p3⟩, ⟨q1, q2, q3⟩, hx0, hb, hnn⟩ := h
  refine (kept_b gs gd k As Ae cs ce n w p.so p.wide hks hn p.disk.blk.lt).mono ?_
  rintro e w' ⟨Am, cm, Bm, dm, rfl, h1, h2, h3⟩
  exact ⟨Am, cm, Bm, dm, rfl, h1.1, h2.mono fun _ _ h => h.elim, h3⟩
end
theorem none_save (w : World) : Calls Try.prog 22 #[.pointer none, .slice none 0 0] w fun e w' => e = .returned (.int .i64 1) ∧ Ext w w' := by
  go_enter Try.func22, Try.ntmps22
  go_wp2
  go_ret
  exact ⟨rfl, Ext.rfl' _⟩
theorem none_kept (w : World) : Calls Try.prog 25 #[.pointer none] w fun e w' => e = .returned (.agg zKept) ∧ Ext w w' := by
  have hR := Blk.new w 53 zKept
  have hx : Ext w (w.alloc (.cells zKept 53)) := (Ext.rfl' w).alloc' _
  obtain ⟨g, hg⟩ : ∃ g, w.heap.size = g := ⟨_, rfl⟩
  rw [hg] at hR
  go_enter Try.func25, Try.ntmps25
  go_upto_region 1 with fail
  generalize w.alloc (.cells zKept 53) = w1 at *
  try rw [hg]
  have r0 := (hR.cell 0).trans rfl
  have f0 := hR.frozen 0
  have r1 := (hR.cell 1).trans rfl
  have f1 := hR.frozen 1
  have r2 := (hR.cell 2).trans rfl
  have f2 := hR.frozen 2
  have r3 := (hR.cell 3).trans rfl
  have f3 := hR.frozen 3
  have r4 := (hR.cell 4).trans rfl
  have f4 := hR.frozen 4
  have r5 := (hR.cell 5).trans rfl
  have f5 := hR.frozen 5
  go_wp2
  try simp only [Exit.inBlock, Exit.then]
  refine bodyPost_ret (results_cell_row rfl _ _ g 53 zKept (0, 0) _ rfl (Blk.sixK hR (.int .u64 0) (.int .i64 0) (.int .u64 0) (.int .u64 0) (.slice none 0 0) (.slice none 0 0)) Try.underlying53 rfl (by kernel_rfl)) rfl ?_
  exact ⟨rfl, hx.then_ ((Chg.refl [g] w1).sixK (g := g) (by simp) (.int .u64 0) (.int .i64 0) (.int .u64 0) (.int .u64 0) (.slice none 0 0) (.slice none 0 0)) (by simp; omega)⟩
theorem open_none (w : World) : Calls Try.prog 17 #[.pointer none] w fun e w' => e = .returned (.tuple #[.pointer none, .agg zKept, .int .i64 1]) ∧ Ext w w' := by
  have hR := Blk.new w 53 zKept
  have hx : Ext w (w.alloc (.cells zKept 53)) := (Ext.rfl' w).alloc' _
  obtain ⟨g, hg⟩ : ∃ g, w.heap.size = g := ⟨_, rfl⟩
  rw [hg] at hR
  go_enter Try.func17, Try.ntmps17
  go_upto_region 1 with fail
  generalize w.alloc (.cells zKept 53) = w1 at *
  try rw [hg]
  have r0 := (hR.cell 0).trans rfl
  have f0 := hR.frozen 0
  have r1 := (hR.cell 1).trans rfl
  have f1 := hR.frozen 1
  have r2 := (hR.cell 2).trans rfl
  have f2 := hR.frozen 2
  have r3 := (hR.cell 3).trans rfl
  have f3 := hR.frozen 3
  have r4 := (hR.cell 4).trans rfl
  have f4 := hR.frozen 4
  have r5 := (hR.cell 5).trans rfl
  have f5 := hR.frozen 5
  go_wp2
  try simp only [Exit.inBlock, Exit.then]
  refine bodyPost_ret (results_tct rfl _ _ g 53 zKept (0, 0) _ rfl (Blk.sixK hR (.int .u64 0) (.int .i64 0) (.int .u64 0) (.int .u64 0) (.slice none 0 0) (.slice none 0 0)) Try.underlying53 rfl (by kernel_rfl)) rfl ?_
  exact ⟨rfl, hx.then_ ((Chg.refl [g] w1).sixK (g := g) (by simp) (.int .u64 0) (.int .i64 0) (.int .u64 0) (.int .u64 0) (.slice none 0 0) (.slice none 0 0)) (by simp; omega)⟩
/-- what is done -/
structure SOp where
  l : List Rec
  crash : Bool
  arm : Bool
  n : Int
  part : Int
abbrev sopE : Enc SOp := Enc.map (.pair (.slice reE) (.pair .bool (.pair .bool (.pair .i64 (.pair .i64 .unit))))) fun o => (o.l, o.crash, o.arm, o.n, o.part, ())
open Enc in
theorem sopE_opens : Opens 62 sopE :=
  (opens_struct Try.underlying62 (by kernel_rfl) (.cons rfl (by kernel_rfl) (opens_slice Try.underlying60 (by kernel_rfl) (by decide) reE_opens) (.cons rfl (by kernel_rfl) (opens_bool Try.underlying4) (.cons rfl (by kernel_rfl) (opens_bool Try.underlying4)
    (.cons rfl (by kernel_rfl) (opens_int Try.underlying3 wf_i64) (.cons rfl (by kernel_rfl) (opens_int Try.underlying3 wf_i64) (.nil _))))))).map _ fun ⟨a, b, c, d, e, _⟩ => ⟨⟨a, b, c, d, e⟩, rfl⟩
theorem sop_at {w : World} {X : Avoid} {A : Option Addr} {n c k : Nat} {l : List SOp} (h : Enc.Sl sopE w X (.slice A n c) l) (hk : k < l.length) : ∃ (ad : Addr) (o : SOp) (v : Value), A = some ad ∧ Hid (l[k]? = some o) ∧ ad.block < w.heap.size ∧
    w.cell? (ad.add (k * 5)) = some v ∧ w.cell? ⟨(ad.add (k * 5)).block, (ad.add (k * 5)).off + 1, none⟩ = some (.bool o.crash) ∧ w.cell? ⟨(ad.add (k * 5)).block, (ad.add (k * 5)).off + 2, none⟩ = some (.bool o.arm) ∧
    w.cell? ⟨(ad.add (k * 5)).block, (ad.add (k * 5)).off + 3, none⟩ = some (.int .i64 o.n) ∧ w.cell? ⟨(ad.add (k * 5)).block, (ad.add (k * 5)).off + 4, none⟩ = some (.int .i64 o.part) ∧ Enc.Sl reE w X v o.l ∧ (-9223372036854775808 ≤ o.n ∧ o.n ≤ 9223372036854775807) ∧ (-9223372036854775808 ≤ o.part ∧ o.part ≤ 9223372036854775807) := by
  obtain ⟨ad, cs, rfl, hrep, hb, hcell⟩ := h.at_ hk
  obtain ⟨c1, c2, rfl, ⟨v, rfl, h1⟩, c3, c5, rfl, h2, c6, c7, rfl, h3, c8, c9, rfl, ⟨rfl, h4⟩, c10, c11, rfl, ⟨rfl, h5⟩, rfl⟩ := hrep
  obtain rfl : _ = _ := h2
  obtain rfl : _ = _ := h3
  exact ⟨ad, _, v, rfl, hide (List.getElem?_eq_getElem hk), hb, Enc.cell0 hcell rfl, Enc.cellS hcell 0 rfl, Enc.cellS hcell 1 rfl, Enc.cellS hcell 2 rfl, Enc.cellS hcell 3 rfl, h1, h4, h5⟩
end Go.Proofs.Ytlblgopfdadalaa
namespace Go.Proofs.Ytlblgopfdadalaa
set_option linter.unusedVariables false
set_option linter.unusedSimpArgs false
set_option linter.unnecessarySimpa false
set_option maxRecDepth 100000
open Go.RowKit
/-- the answer is whether p -/
def RetIs (p : Prop) (w w' : World) (e : Ending) : Prop := ∃ b : Bool, e = .returned (.bool b) ∧ Ext w w' ∧ Hid (b = true ↔ p)
theorem RetIs.yes {p : Prop} {w w' : World} (hx : Ext w w') (h : p) : RetIs p w w' (.returned (.bool true)) := ⟨true, rfl, hx, hide (by simp [h])⟩
theorem RetIs.no {p : Prop} {w w' : World} (hx : Ext w w') (h : ¬ p) : RetIs p w w' (.returned (.bool false)) := ⟨false, rfl, hx, hide (by simp [h])⟩
theorem RetIs.to {p q : Prop} {w w' : World} {e : Ending} (h : RetIs p w w' e) (hi : p ↔ q) : RetIs q w w' e := by
  obtain ⟨b, h1, h2, h3⟩ := h
  exact ⟨b, h1, h2, hide (h3.out.trans hi)⟩
end Go.Proofs.Ytlblgopfdadalaa
