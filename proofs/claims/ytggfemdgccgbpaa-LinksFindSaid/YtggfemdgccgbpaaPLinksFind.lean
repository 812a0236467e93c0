import Derived.Test.YtggfemdgccgbpaaPk36
import Derived.RegionTactic
import Derived.Deep.DeepCutAuto
import Derived.Test.YtggfemdgccgbpaaPk1
/- LinksFind. -/
namespace Go.Proofs.Ytggfemdgccgbpaa
set_option linter.unusedVariables false
set_option linter.unusedSimpArgs false
set_option linter.unnecessarySimpa false
set_option maxRecDepth 100000
open Go.RowKit
theorem elt_str : Elt 9 Enc.text (.string ByteArray.empty) 16 := ⟨by kernel_rfl, rfl, by decide⟩
theorem Own.lit1 {α : Type} {E : Enc α} {w0 w : World} {X : Avoid} {cs : List Value} {a : α} (T : TypeId) (hx : Ext w0 w) (g : Nat) (hg : w.heap.size = g) (hX : ¬ X g) (h : ∀ Y, E.rep w Y cs a) : Own T E w0 (w.alloc (.cells cs.toArray T)) X (.slice (some ⟨g, 0, none⟩) 1 1) [a] := by
  subst hg
  have hl := E.len (h noneAt)
  refine ⟨[cs], by simpa using World.ownsRow_lit (size := E.size) w cs.toArray 1 hx.size (by decide) (by simp [hl]), ?_, fun k hk => ?_⟩
  · exact Enc.Each.single (E.ext (h _) ((Ext.rfl' w).alloc' _))
  · obtain rfl := Option.some.inj hk
    exact hX
theorem st_at {w : World} {X : Avoid} {A : Option Addr} {n c k : Nat} {l : List Bytes} (h : Enc.Sl Enc.text w X (.slice A n c) l) (hk : k < l.length) : ∃ (ad : Addr) (x : Bytes), A = some ad ∧ Hid (l[k]? = some x) ∧ ad.block < w.heap.size ∧ w.cell? (ad.add k) = some (str x) := by
  obtain ⟨ad, cs, rfl, ⟨rfl, -⟩, hb, hcell⟩ := h.at_ hk
  exact ⟨ad, _, rfl, hide (List.getElem?_eq_getElem hk), hb, by simpa [Enc.text] using hcell 0 _ rfl⟩
def fcmd (x : Bytes) : Cm := ⟨3, 0, 0, x, [], 0⟩
theorem find_law (s : St) (x : Bytes) : ∃ (an : An) (y : Ln) (is : Bool), ldo s (fcmd x) = (s, an) ∧ lfv s.links x = (y, is) ∧ ((is = true ∧ an.err = 0 ∧ an.text = y.url ∧ y.name = x) ∨ (is = false ∧ an.err = 10 ∧ an.text = [] ∧ ∀ y, lfind s.links x ≠ some y)) := by
  have e : ldo s (fcmd x) = match lfind s.links x with
      | some y => (s, ⟨0, y.url⟩)
      | none => (s, ⟨10, []⟩) := by
    unfold ldo ldoW fcmd
    rw [if_neg (by simp), if_neg (by simp), if_neg (by simp), if_pos rfl]
    rfl
  rw [e]
  unfold lfv
  cases h : lfind s.links x with
  | none => exact ⟨_, _, _, rfl, rfl, .inr ⟨rfl, rfl, rfl, fun y hy => (by cases hy)⟩⟩
  | some y => exact ⟨_, _, _, rfl, rfl, .inl ⟨rfl, rfl, rfl, (lfind_some h).1⟩⟩
theorem sl_apart {w : World} {X : Avoid} {A : Option Addr} {n c : Nat} {l : List Ln} (h : Enc.Sl lnE w X (.slice A n c) l) {g : Nat} {T : TypeId} {cs : Array Value} (hB : Blk w g T cs) (hn : ∀ j a b, cs[j]? = some (str a) → cs[j + 1]? = some (str b) → False) : Enc.Sl lnE w (fun k => X k ∨ k = g) (.slice A n c) l := by
  obtain ⟨A', c', css, e, h1, h2, h3, h4, h5⟩ := id h
  refine ⟨A', c', css, e, h1, h2, h3, fun ad he h0 hx => hx.elim (h4 ad he h0) fun hg => ?_, ⟨h5.1, fun k cs a e1 e2 => ln_widen (h5.2 k cs a e1 e2)⟩⟩
  obtain ⟨ad2, y, rfl, -, -, p0, p1, -⟩ := ln_at h (k := 0) h0
  simp only [Value.slice.injEq] at e
  obtain ⟨rfl, -, -⟩ := e
  obtain rfl := Option.some.inj he
  subst hg
  simp only [Nat.zero_mul] at p0 p1
  have e0 : ad2.add 0 = ad2 := by unfold Addr.add; simp
  rw [e0] at p0 p1
  have h7 : ∀ (a : Addr) v, a.block = ad2.block → w.cell? a = some v → cs[a.off]? = some v := fun a v ha hv => by
    unfold World.cell? at hv
    unfold Blk at hB
    rw [ha, hB] at hv
    simp only at hv
    split at hv
    · cases hv
    · exact hv
  exact hn ad2.off _ _ (h7 _ _ rfl p0) (h7 ⟨ad2.block, ad2.off + 1, none⟩ _ rfl p1)
theorem st_apart {w : World} {X : Avoid} {A B : Option Addr} {n c m d : Nat} {x y : Value} {s : St} (hse : s.sess = []) (h : stE.rep w X [x, y, .slice A n c, .slice B m d] s) {g : Nat} {T : TypeId} {cs : Array Value} (hB : Blk w g T cs) (hn : ∀ j a b, cs[j]? = some (str a) → cs[j + 1]? = some (str b) → False) : stE.rep w (fun k => X k ∨ k = g) [x, y, .slice A n c, .slice B m d] s := by
  obtain ⟨vl, vs, hcs, h1, h2, h3, h4⟩ := st_rep.1 h
  simp only [List.cons.injEq, and_true] at hcs
  obtain ⟨rfl, rfl, rfl, rfl⟩ := hcs
  refine st_rep.2 ⟨_, _, rfl, h1, h2, sl_apart h3 hB hn, ?_⟩
  obtain ⟨A', c', css, e, k1, k2, k3, k4, k5⟩ := h4
  refine ⟨A', c', css, e, k1, k2, k3, fun ad he h0 => ?_, ?_⟩
  · rw [hse] at h0; simp at h0
  · rw [hse] at k5 ⊢
    have : css = [] := List.eq_nil_of_length_eq_zero (by simpa using k5.1)
    subst this
    exact Enc.Each.nil _ _ _
theorem nostr4 : ∀ j a b, (#[.int .u64 0, .int .u64 0, .slice none 0 0, .slice none 0 0] : Array Value)[j]? = some (str a) → (#[.int .u64 0, .int .u64 0, .slice none 0 0, .slice none 0 0] : Array Value)[j + 1]? = some (str b) → False := by
  intro j a b h _
  rcases j with _ | _ | _ | _ | j <;> simp at h
theorem nostr2 : ∀ j a b, (#[.int .i64 0, str []] : Array Value)[j]? = some (str a) → (#[.int .i64 0, str []] : Array Value)[j + 1]? = some (str b) → False := by
  intro j a b h h'
  rcases j with _ | _ | j <;> simp at h h'
set_option maxHeartbeats 12800000 in
theorem linksFind_walk (x : Value) (b : Bytes) (nv : ByteArray) (w : World) (hx : Bs w x b) (hnv : nv.size ≤ maxLen) :
    Calls Try.prog 10 #[x, .string nv] w fun e w' => e = .returned (.bool true) ∧ Ext w w' := by
  obtain ⟨n, rfl⟩ : ∃ u : Bytes, nv = ⟨u.toArray⟩ := ⟨nv.data.toList, by simp⟩
  change Calls Try.prog 10 #[x, str n] w _
  obtain ⟨Ax, cx, rfl, -, -, -⟩ := id hx
  have hul : (n.length : Int) ≤ 9223372036854775807 := by simp [ByteArray.size, maxLen] at hnv; omega
  go_enter Try.func10, Try.ntmps10
  go_wp2_with fail
  refine (begun18_b w).mono ?_
  rintro e w1 ⟨rfl, hx1⟩
  rcases Bool.eq_false_or_eq_true (decide ((100 : Int) < b.length)) with f1 | f1
  · go_wp2_with fail
    go_ret
    exact ⟨rfl, hx1⟩
  rcases Bool.eq_false_or_eq_true (decide ((30 : Int) < n.length)) with f2 | f2
  · go_wp2_with fail
    go_ret
    exact ⟨rfl, hx1⟩
  have HB : Hid (b.length ≤ 100) := hide (by have := of_decide_eq_false f1; omega)
  have HU : Hid (n.length ≤ 30) := hide (by have := of_decide_eq_false f2; omega)
  go_wp2_with fail
  refine (run_b _ b w1 (hx.ext hx1) (by have := HB.out; omega)).mono ?_
  rintro e w2 ⟨s, A0, c0, B0, d0, hi, hse, rfl, hr, hxd⟩
  replace hx1 := hx1.trans' hxd
  clear hxd f1 f2
  have HSE := hide hse
  clear hse
  obtain ⟨g1, hg⟩ : ∃ g_, w2.heap.size = g_ := ⟨_, rfl⟩
  have hS := Blk.new w2 28 #[.int .u64 s.now, .int .u64 s.count, .slice A0 s.links.length c0, .slice B0 s.sess.length d0]
  rw [hg] at hS
  have hz : Ext w2 (w2.alloc (.cells #[.int .u64 s.now, .int .u64 s.count, .slice A0 s.links.length c0, .slice B0 s.sess.length d0] 28)) := (Ext.rfl' w2).alloc' _
  replace hr := stE.ext hr hz
  replace hx1 := hx1.trans' hz
  go_upto_region 6 with fail
  try rw [hg]
  clear hz hg
  generalize (w2.alloc (.cells #[.int .u64 s.now, .int .u64 s.count, .slice A0 s.links.length c0, .slice B0 s.sess.length d0] 28)) = w3 at *
  obtain ⟨gl, hg⟩ : ∃ g_, w3.heap.size = g_ := ⟨_, rfl⟩
  have hown := Own.lit1 (E := Enc.text) (a := n) (X := noneAt) (cs := [str n]) 9 (Ext.rfl' w3) gl hg (fun h => h) (fun _ => ⟨rfl, by have := HU.out; simp only [maxLen]; omega⟩)
  have hz := (Ext.rfl' w3).alloc' (.cells #[str n] 9)
  go_upto_region 7 with fail
  try rw [hg]
  clear hg
  generalize (w3.alloc (.cells #[str n] 9)) = w4 at *
  have hll : s.links.length ≤ 40 := hi.len
  obtain ⟨vl, vs, hcs, s1, s2, s3, s4⟩ := st_rep.1 hr
  obtain ⟨rfl, rfl⟩ : Value.slice A0 s.links.length c0 = vl ∧ Value.slice B0 s.sess.length d0 = vs := by simpa using hcs
  clear hcs
  go_wp2_with fail
  go_loopw [6, 7] (fun al i wr => ∃ (m : Nat) (l : List Bytes) (A : Option Addr) (c : Nat), m ≤ s.links.length ∧ l = n :: (s.links.take m).map Ln.name ∧ al = .slice A l.length c ∧ i = .int .i64 m ∧ Own 9 Enc.text w3 wr noneAt (.slice A l.length c) l ∧ Ext w3 wr) (fun _ i _ => (s.links.length - intOf i).toNat)
  case atStart => exact ⟨0, [n], some ⟨gl, 0, none⟩, 1, by omega, rfl, rfl, rfl, hown, hz⟩
  case round =>
    obtain ⟨m, l, A, c, hm, hl, rfl, rfl, hown, hxr⟩ := hrel
    have hSr := hS.ext hxr
    have t2 := (hSr.cell 2).trans rfl
    have hll2 : l.length = m + 1 := by rw [hl]; simp; omega
    by_cases hlt : (m : Int) < s.links.length
    · obtain ⟨ad, y, rfl, hyk, hbp, p0, -, -, -, -⟩ := ln_at (s3.ext hxr) (k := m) (by omega)
      have hm0 : (0 : Int) ≤ m := by omega
      have hxa : Ext wr (wr.alloc (.cells #[str y.name] 9)) := (Ext.rfl' wr).alloc' _
      have hlit : Enc.Sl Enc.text (wr.alloc (.cells #[str y.name] 9)) (fun k => noneAt k ∨ (Value.slice A l.length c).ownBlock = some k) (.slice (some ⟨wr.heap.size, 0, none⟩) 1 1) [y.name] :=
        Sl.one (E := Enc.text) 9 (cs := [str y.name]) ⟨rfl, Nat.le_trans (hi.name_len (List.mem_of_getElem? hyk.out)) (by decide)⟩ _ rfl (fun h => h.elim (fun h => h) fun h => by have := (hown.lt _ h).2; omega)
      have HL := hide hl
      have HLL := hide hll2
      clear hl hll2
      go_wp2_with (at_builtin; refine wpList_own elt_str 52 Try.underlying52 rfl _ _ rfl (hown.ext hxa) rfl (hxr.trans' hxa) (m := [y.name]) (y := .slice (some ⟨wr.heap.size, 0, none⟩) 1 1) rfl hlit (fun h => h) (by have := HLL.out; simp only [List.length_cons, List.length_nil]; omega) (by have := HLL.out; simp only [List.length_cons, List.length_nil]; omega) ?_; intro l1 A1 c1 w5 hl1 hown1 hx5 hc5)
      go_roundw
      case rel => exact ⟨m + 1, l1, A1, c1, by omega, by rw [hl1.out, HL.out, List.take_succ_eq_append_getElem (by omega : m < s.links.length)]; have := Option.some.inj ((List.getElem?_eq_getElem (by omega : m < s.links.length)).symm.trans hyk.out); simp [this], rfl, by go_num, hown1, hx5⟩
      case measure => simp [intOf]; omega
    · obtain rfl : m = s.links.length := by omega
      have hl' : ∀ k y, l[k]? = some y → y.length ≤ 30 ∧ (0 < k → ∃ z ∈ s.links, z.name = y) := by
        intro k y hk
        rw [hl, List.take_length] at hk
        cases k with
        | zero => simp at hk; rw [← hk]; exact ⟨HU.out, fun h => absurd h (by omega)⟩
        | succ k =>
          simp at hk
          obtain ⟨z, hz1, hz2⟩ := hk
          have hzm := List.mem_of_getElem? hz1
          refine ⟨by rw [← hz2]; have := hi.name_len hzm; omega, fun _ => ⟨z, hzm, hz2⟩⟩
      have hsl := hown.sl
      have hl41 : l.length ≤ 41 := by omega
      clear hl hown hll2
      have HL := hide hl'
      clear hl'
      obtain ⟨hS0, hr0⟩ : Blk wr g1 28 #[.int .u64 s.now, .int .u64 s.count, .slice A0 s.links.length c0, .slice B0 s.sess.length d0] ∧ stE.rep wr noneAt [.int .u64 s.now, .int .u64 s.count, .slice A0 s.links.length c0, .slice B0 s.sess.length d0] s := ⟨hSr, stE.ext hr hxr⟩
      replace hx1 := hx1.trans' hxr
      clear hS hr hSr hxr hz s3 s4
      obtain ⟨wl, hwl⟩ : ∃ W, W = wr := ⟨_, rfl⟩
      subst hwl
      go_wp2_with fail
      clear t2
      go_loopw [8] (fun i w6 => ∃ k : Nat, k ≤ l.length ∧ i = .int .i64 k ∧ Ext wl w6) (fun i _ => (l.length - intOf i).toNat)
      case atStart => exact ⟨0, by omega, rfl, Ext.rfl' _⟩
      case round =>
        obtain ⟨k, hkl, rfl, hx6⟩ := hrel
        by_cases hk : (k : Int) < l.length
        · obtain ⟨ad, z, rfl, hzk, hbz, pz⟩ := st_at (hsl.ext hx6) (k := k) (by omega)
          obtain ⟨hz30, hz0⟩ := HL.out k z hzk.out
          have hS := hS0.ext hx6
          have hr := stE.ext hr0 hx6
          have H1 := hide (fun W (hx : Ext wr W) => ldoL_b noneAt s _ (fcmd z) W (fun _ h => h.elim) (stE.ext hr hx) hi HSE.out ⟨by simp [fcmd], by simp [fcmd], by simp [fcmd], by simp [fcmd], by simp [fcmd], by simp [fcmd], by simp only [fcmd, maxLen]; omega, by simp [fcmd, maxLen], by simp [fcmd], by simp [fcmd]⟩ (by simp [fcmd]) (by simp only [fcmd]; omega))
          have H2 := hide (fun W (hx : Ext wr W) => lkFind_b s _ z W (stE.ext hr hx) hi.rise (by omega) (by simp only [maxLen]; omega))
          have hb0 : (0 : Int) ≤ k := by omega
          obtain ⟨an, y, is, e1, e2, hcase⟩ := find_law s z
          rw [e1] at H1
          rw [e2] at H2
          have HC := hide hcase
          have HK := hide hk
          have HZ := hide hz0
          clear e1 e2 hcase hz0
          go_upto_region 14 with fail
          go_cut [9, 10] (fun v9 v10 wx => ∃ g9 g10 A1 c1 A2 c2, v9 = .pointer (some ⟨g9, 0, none⟩) ∧ v10 = .pointer (some ⟨g10, 0, none⟩) ∧ Blk wx g9 28 #[.int .u64 s.now, .int .u64 s.count, .slice A1 s.links.length c1, .slice A2 s.sess.length c2] ∧ stE.rep wx noneAt [.int .u64 s.now, .int .u64 s.count, .slice A1 s.links.length c1, .slice A2 s.sess.length c2] s ∧ Blk wx g10 33 #[.int .i64 an.err, str an.text] ∧ Ext wr wx)
          case first =>
            refine Rg.regionX Try.checked.mixed 111 12 9 58 _ _ (by rfl) (by rfl) (by kernel_rfl) [
              (fun x_ _ => x_ = .agg #[.int .u64 s.now, .int .u64 s.count, .slice A0 s.links.length c0, .slice B0 s.sess.length d0]),
              (fun x_ _ => x_ = .slice (some ad) l.length c),
              (fun x_ _ => x_ = .int .i64 k),
              (fun x_ _ => x_ = .pointer (some (ad.add k))),
              (fun x_ _ => x_ = str z),
              (fun x_ _ => x_ = .agg #[.int .i64 3, .int .i64 0, .int .u64 0, str z, str [], .int .u64 0]),
              (fun v W => ∃ A1 c1 A2 c2, v = .tuple #[.agg #[.int .u64 s.now, .int .u64 s.count, .slice A1 s.links.length c1, .slice A2 s.sess.length c2], .agg #[.int .i64 an.err, str an.text]] ∧ stE.rep W noneAt [.int .u64 s.now, .int .u64 s.count, .slice A1 s.links.length c1, .slice A2 s.sess.length c2] s),
              (fun v W => ∃ A1 c1 A2 c2, v = .tuple #[.agg #[.int .u64 s.now, .int .u64 s.count, .slice A1 s.links.length c1, .slice A2 s.sess.length c2], .agg #[.int .i64 an.err, str an.text]] ∧ stE.rep W noneAt [.int .u64 s.now, .int .u64 s.count, .slice A1 s.links.length c1, .slice A2 s.sess.length c2] s),
              (fun v W => ∃ A1 c1 A2 c2, v = .agg #[.int .u64 s.now, .int .u64 s.count, .slice A1 s.links.length c1, .slice A2 s.sess.length c2] ∧ stE.rep W noneAt [.int .u64 s.now, .int .u64 s.count, .slice A1 s.links.length c1, .slice A2 s.sess.length c2] s),
              (fun x_ _ => x_ = .agg #[.int .i64 an.err, str an.text]),
              (fun v W => ∃ g, v = .pointer (some ⟨g, 0, none⟩) ∧ Blk W g 28 #[.int .u64 0, .int .u64 0, .slice none 0 0, .slice none 0 0] ∧ wr.heap.size ≤ g),
              (fun v W => ∃ g, v = .pointer (some ⟨g, 0, none⟩) ∧ Blk W g 33 #[.int .i64 0, str []] ∧ wr.heap.size ≤ g)] (fun W => Ext wr W) Ext rfl rfl rfl
              ?st ((Ext.rfl' wr).drew') ?ob ?en ?en2
            case st => exact ⟨fun _ _ _ h _ => h, fun _ _ _ h _ => h, fun _ _ _ h _ => h, fun _ _ _ h _ => h, fun _ _ _ h _ => h, fun _ _ _ h _ => h, fun _ _ _ ⟨a1_, a2_, a3_, a4_, h1_, h2_⟩ hx => ⟨a1_, a2_, a3_, a4_, h1_, stE.ext h2_ hx⟩, fun _ _ _ ⟨a1_, a2_, a3_, a4_, h1_, h2_⟩ hx => ⟨a1_, a2_, a3_, a4_, h1_, stE.ext h2_ hx⟩, fun _ _ _ ⟨a1_, a2_, a3_, a4_, h1_, h2_⟩ hx => ⟨a1_, a2_, a3_, a4_, h1_, stE.ext h2_ hx⟩, fun _ _ _ h _ => h, fun _ _ _ ⟨g_, h1_, h2_, h3_⟩ hx => ⟨g_, h1_, h2_.ext hx, h3_⟩, fun _ _ _ ⟨g_, h1_, h2_, h3_⟩ hx => ⟨g_, h1_, h2_.ext hx, h3_⟩, trivial⟩
            case ob =>
              refine ⟨Rg.at_run [5] rfl ?_, ?_⟩
              · intro ρ W hR ⟨q5, _⟩
                replace q5 : ρ 5 = .pointer (some ⟨g1, 0, none⟩) := q5
                refine ⟨rfl, ?_⟩
                have c0_ : W.cell? ⟨g1, 0, none⟩ = some (.int .u64 s.now) := ((hS.ext hR).cell 0).trans rfl
                have c1_ : W.cell? ⟨g1, 1, none⟩ = some (.int .u64 s.count) := ((hS.ext hR).cell 1).trans rfl
                have c2_ : W.cell? ⟨g1, 2, none⟩ = some (.slice A0 s.links.length c0) := ((hS.ext hR).cell 2).trans rfl
                have c3_ : W.cell? ⟨g1, 3, none⟩ = some (.slice B0 s.sess.length d0) := ((hS.ext hR).cell 3).trans rfl
                exact Rg.run_ok (v := .agg #[.int .u64 s.now, .int .u64 s.count, .slice A0 s.links.length c0, .slice B0 s.sess.length d0]) (by simp [execOp, Rg.ev, go_sem, q5, c0_, c1_, c2_, c3_]) ⟨rfl, hR, Ext.rfl' _⟩
              refine ⟨Rg.at_run [6] rfl ?_, ?_⟩
              · intro ρ W hR ⟨q6, _⟩
                replace q6 : ρ 6 = .slice (some ad) l.length c := q6
                refine ⟨rfl, ?_⟩
                exact Rg.run_ok (v := .slice (some ad) l.length c) (by simp [execOp, Rg.ev, go_sem, q6]) ⟨rfl, hR, Ext.rfl' _⟩
              refine ⟨Rg.at_run [8] rfl ?_, ?_⟩
              · intro ρ W hR ⟨q8, _⟩
                replace q8 : ρ 8 = .int .i64 k := q8
                refine ⟨rfl, ?_⟩
                exact Rg.run_ok (v := .int .i64 k) (by simp [execOp, Rg.ev, go_sem, q8]) ⟨rfl, hR, Ext.rfl' _⟩
              refine ⟨Rg.at_run [51, 52] rfl ?_, ?_⟩
              · intro ρ W hR ⟨q51, q52, _⟩
                replace q51 : ρ 51 = .slice (some ad) l.length c := q51
                replace q52 : ρ 52 = .int .i64 k := q52
                refine ⟨rfl, ?_⟩
                exact Rg.run_ok (v := .pointer (some (ad.add k))) (by simp [execOp, Rg.ev, go_sem, q51, q52, hb0, hk]) ⟨rfl, hR, Ext.rfl' _⟩
              refine ⟨Rg.at_run [53] rfl ?_, ?_⟩
              · intro ρ W hR ⟨q53, _⟩
                replace q53 : ρ 53 = .pointer (some (ad.add k)) := q53
                refine ⟨rfl, ?_⟩
                have hab_ : (ad.add k).block < wr.heap.size := by rw [block_of_add]; exact hbz
                have c0_ : W.cell? (ad.add k) = some (str z) := (hR.cell (p := ad.add k) hab_).trans pz
                exact Rg.run_ok (v := str z) (by simp [execOp, Rg.ev, go_sem, q53, c0_]) ⟨rfl, hR, Ext.rfl' _⟩
              refine ⟨Rg.at_run [54] rfl ?_, ?_⟩
              · intro ρ W hR ⟨q54, _⟩
                replace q54 : ρ 54 = str z := q54
                refine ⟨rfl, ?_⟩
                exact Rg.run_ok (v := .agg #[.int .i64 3, .int .i64 0, .int .u64 0, str z, str [], .int .u64 0]) (by simp [execOp, Rg.ev, go_sem, q54]) ⟨rfl, hR, Ext.rfl' _⟩
              refine ⟨Rg.at_run [50, 55] rfl ?_, ?_⟩
              · intro ρ W hR ⟨q50, q55, _⟩
                replace q50 : ρ 50 = .agg #[.int .u64 s.now, .int .u64 s.count, .slice A0 s.links.length c0, .slice B0 s.sess.length d0] := q50
                replace q55 : ρ 55 = .agg #[.int .i64 3, .int .i64 0, .int .u64 0, str z, str [], .int .u64 0] := q55
                refine ⟨rfl, ?_⟩
                refine Rg.enter_fn (args := #[.agg #[.int .u64 s.now, .int .u64 s.count, .slice A0 s.links.length c0, .slice B0 s.sess.length d0], .agg #[.int .i64 3, .int .i64 0, .int .u64 0, str z, str [], .int .u64 0]]) rfl (by simp only [List.map_toArray, List.map_cons, List.map_nil, Rg.ev, q50, q55]) (by kernel_rfl) ?_
                refine (H1.out W hR).mono ?_
                rintro e_ w9 ⟨t_, a_, A1, c1, A2, c2, h1_, rfl, h2_, hxx⟩
                obtain ⟨rfl, rfl⟩ := Prod.mk.inj h1_.out
                exact ⟨_, rfl, ⟨A1, c1, A2, c2, rfl, h2_⟩, hR.trans' hxx, hxx⟩
              refine ⟨Rg.at_run [56] rfl ?_, ?_⟩
              · intro ρ W hR ⟨q56, _⟩
                replace q56 : (fun v W => ∃ A1 c1 A2 c2, v = .tuple #[.agg #[.int .u64 s.now, .int .u64 s.count, .slice A1 s.links.length c1, .slice A2 s.sess.length c2], .agg #[.int .i64 an.err, str an.text]] ∧ stE.rep W noneAt [.int .u64 s.now, .int .u64 s.count, .slice A1 s.links.length c1, .slice A2 s.sess.length c2] s) (ρ 56) W := q56
                refine ⟨rfl, ?_⟩
                exact Rg.run_ok (by simp [execOp, Rg.ev, go_sem] <;> rfl) ⟨q56, hR, Ext.rfl' _⟩
              refine ⟨Rg.at_run [49] rfl ?_, ?_⟩
              · intro ρ W hR ⟨q49, _⟩
                replace q49 : (fun v W => ∃ A1 c1 A2 c2, v = .tuple #[.agg #[.int .u64 s.now, .int .u64 s.count, .slice A1 s.links.length c1, .slice A2 s.sess.length c2], .agg #[.int .i64 an.err, str an.text]] ∧ stE.rep W noneAt [.int .u64 s.now, .int .u64 s.count, .slice A1 s.links.length c1, .slice A2 s.sess.length c2] s) (ρ 49) W := q49
                refine ⟨rfl, ?_⟩
                obtain ⟨A1, c1, A2, c2, hv_, hr_⟩ := q49
                exact Rg.run_ok (v := .agg #[.int .u64 s.now, .int .u64 s.count, .slice A1 s.links.length c1, .slice A2 s.sess.length c2]) (by simp [execOp, Rg.ev, go_sem, hv_]) ⟨⟨A1, c1, A2, c2, rfl, hr_⟩, hR, Ext.rfl' _⟩
              refine ⟨Rg.at_run [49] rfl ?_, ?_⟩
              · intro ρ W hR ⟨q49, _⟩
                replace q49 : (fun v W => ∃ A1 c1 A2 c2, v = .tuple #[.agg #[.int .u64 s.now, .int .u64 s.count, .slice A1 s.links.length c1, .slice A2 s.sess.length c2], .agg #[.int .i64 an.err, str an.text]] ∧ stE.rep W noneAt [.int .u64 s.now, .int .u64 s.count, .slice A1 s.links.length c1, .slice A2 s.sess.length c2] s) (ρ 49) W := q49
                refine ⟨rfl, ?_⟩
                obtain ⟨A1, c1, A2, c2, hv_, hr_⟩ := q49
                exact Rg.run_ok (v := .agg #[.int .i64 an.err, str an.text]) (by simp [execOp, Rg.ev, go_sem, hv_]) ⟨rfl, hR, Ext.rfl' _⟩
              refine ⟨Rg.at_run [] rfl ?_, ?_⟩
              · intro ρ W hR _
                refine ⟨rfl, ?_⟩
                exact Rg.run_ok (v := .pointer (some ⟨W.heap.size, 0, none⟩)) (W' := W.alloc (.cells #[.int .u64 0, .int .u64 0, .slice none 0 0, .slice none 0 0] 28)) (by kernel_rfl) ⟨⟨_, rfl, Blk.new _ _ _, hR.size⟩, hR.alloc' _, (Ext.rfl' _).alloc' _⟩
              refine ⟨Rg.at_run [] rfl ?_, ?_⟩
              · intro ρ W hR _
                refine ⟨rfl, ?_⟩
                exact Rg.run_ok (v := .pointer (some ⟨W.heap.size, 0, none⟩)) (W' := W.alloc (.cells #[.int .i64 0, str []] 33)) (by kernel_rfl) ⟨⟨_, rfl, Blk.new _ _ _, hR.size⟩, hR.alloc' _, (Ext.rfl' _).alloc' _⟩
              trivial
            case en =>
              intro tm W hR hsz hk
              rw [Rg.fin_eq (ds := [50, 51, 52, 53, 54, 55, 56, 49, 57, 58, 9, 10]) rfl rfl rfl hsz hk]
              have k9 : (fun v W => ∃ g, v = .pointer (some ⟨g, 0, none⟩) ∧ Blk W g 28 #[.int .u64 0, .int .u64 0, .slice none 0 0, .slice none 0 0] ∧ wr.heap.size ≤ g) (tm.getD 9 undef) W := hk 9
              have k10 : (fun v W => ∃ g, v = .pointer (some ⟨g, 0, none⟩) ∧ Blk W g 33 #[.int .i64 0, str []] ∧ wr.heap.size ≤ g) (tm.getD 10 undef) W := hk 10
              have k49 : (fun v W => ∃ A1 c1 A2 c2, v = .tuple #[.agg #[.int .u64 s.now, .int .u64 s.count, .slice A1 s.links.length c1, .slice A2 s.sess.length c2], .agg #[.int .i64 an.err, str an.text]] ∧ stE.rep W noneAt [.int .u64 s.now, .int .u64 s.count, .slice A1 s.links.length c1, .slice A2 s.sess.length c2] s) (tm.getD 49 undef) W := hk 49
              have k50 : tm.getD 50 undef = .agg #[.int .u64 s.now, .int .u64 s.count, .slice A0 s.links.length c0, .slice B0 s.sess.length d0] := hk 50
              have k51 : tm.getD 51 undef = .slice (some ad) l.length c := hk 51
              have k52 : tm.getD 52 undef = .int .i64 k := hk 52
              have k53 : tm.getD 53 undef = .pointer (some (ad.add k)) := hk 53
              have k54 : tm.getD 54 undef = str z := hk 54
              have k55 : tm.getD 55 undef = .agg #[.int .i64 3, .int .i64 0, .int .u64 0, str z, str [], .int .u64 0] := hk 55
              have k56 : (fun v W => ∃ A1 c1 A2 c2, v = .tuple #[.agg #[.int .u64 s.now, .int .u64 s.count, .slice A1 s.links.length c1, .slice A2 s.sess.length c2], .agg #[.int .i64 an.err, str an.text]] ∧ stE.rep W noneAt [.int .u64 s.now, .int .u64 s.count, .slice A1 s.links.length c1, .slice A2 s.sess.length c2] s) (tm.getD 56 undef) W := hk 56
              have k57 : (fun v W => ∃ A1 c1 A2 c2, v = .agg #[.int .u64 s.now, .int .u64 s.count, .slice A1 s.links.length c1, .slice A2 s.sess.length c2] ∧ stE.rep W noneAt [.int .u64 s.now, .int .u64 s.count, .slice A1 s.links.length c1, .slice A2 s.sess.length c2] s) (tm.getD 57 undef) W := hk 57
              have k58 : tm.getD 58 undef = .agg #[.int .i64 an.err, str an.text] := hk 58
              clear hk hsz
              simp only [Rg.putAll, List.setIfInBounds_toArray, List.set_cons_zero, List.set_cons_succ, k50, k51, k52, k53, k54, k55, k58]
              generalize tm.getD 9 undef = u9 at *
              generalize tm.getD 10 undef = u10 at *
              generalize tm.getD 49 undef = u49 at *
              clear k50
              clear k51
              clear k52
              clear k53
              clear k54
              clear k55
              generalize tm.getD 56 undef = u56 at *
              generalize tm.getD 57 undef = u57 at *
              clear k58
              clear k49 k56
              obtain ⟨A1, c1, A2, c2, rfl, hrep1⟩ := k57
              obtain ⟨g9, rfl, hB9, hg9⟩ := k9
              obtain ⟨g10, rfl, hB10, hg10⟩ := k10
              have hne : g9 ≠ g10 := Blk.ne_ hB9 hB10 (by decide)
              have n1 : ¬ g9 = g10 := hne
              have n2 : ¬ g10 = g9 := fun h => hne h.symm
              have l0 := (hB9.cell 0).trans rfl
              have l1 := (hB9.cell 1).trans rfl
              have l2 := (hB9.cell 2).trans rfl
              have l3 := (hB9.cell 3).trans rfl
              have f0 := hB9.frozen 0
              have f1 := hB9.frozen 1
              have f2 := hB9.frozen 2
              have f3 := hB9.frozen 3
              have a0 := (hB10.cell 0).trans rfl
              have a1 := (hB10.cell 1).trans rfl
              have b0 := hB10.frozen 0
              have b1 := hB10.frozen 1
              have hrep3 := st_apart HSE.out (st_apart HSE.out hrep1 hB9 nostr4) hB10 nostr2
              have hcg : Chg [g9] W _ := (Chg.refl [g9] W).four (g := g9) (by simp) (.int .u64 s.now) (.int .u64 s.count) (.slice A1 s.links.length c1) (.slice A2 s.sess.length c2)
              have hS1 := Blk.four hB9 (.int .u64 s.now) (.int .u64 s.count) (.slice A1 s.links.length c1) (.slice A2 s.sess.length c2)
              have hA1 := Blk.two_ (hB10.chg hcg (by simp; omega)) (.int .i64 an.err) (str an.text)
              have hc2 : Chg [g10] _ _ := (Chg.refl [g10] ((((W.setCell ⟨g9, 0, none⟩ (.int .u64 s.now)).setCell ⟨g9, 1, none⟩ (.int .u64 s.count)).setCell ⟨g9, 2, none⟩ (.slice A1 s.links.length c1)).setCell ⟨g9, 3, none⟩ (.slice A2 s.sess.length c2))).two_ (g := g10) (by simp) (.int .i64 an.err) (str an.text)
              have hS2 := hS1.chg hc2 (by simp; omega)
              have hrep2 := stE.mono (stE.chg (stE.chg hrep3 hcg (fun j hj _ => .inl (.inr (by simpa using hj)))) hc2 (fun j hj _ => .inr (by simpa using hj))) (Y := noneAt) (fun j _ h => h.elim)
              have hx2 := (hR.then_ hcg (by simp; omega)).then_ hc2 (by simp; omega)
              go_wp2_with fail
              go_meet
              case rel => exact ⟨g9, g10, A1, c1, A2, c2, rfl, rfl, hS2, hrep2, hA1, hx2⟩
            case en2 =>
              intro tm W hR hsz hk
              rw [Rg.fin_eqX (ds := [50, 51, 52, 53, 54, 55, 56, 49, 57, 58, 9, 10]) rfl (by decide) rfl rfl hsz hk]
              have k9 : (fun v W => ∃ g, v = .pointer (some ⟨g, 0, none⟩) ∧ Blk W g 28 #[.int .u64 0, .int .u64 0, .slice none 0 0, .slice none 0 0] ∧ wr.heap.size ≤ g) (tm.getD 9 undef) W := hk 9
              have k10 : (fun v W => ∃ g, v = .pointer (some ⟨g, 0, none⟩) ∧ Blk W g 33 #[.int .i64 0, str []] ∧ wr.heap.size ≤ g) (tm.getD 10 undef) W := hk 10
              have k49 : (fun v W => ∃ A1 c1 A2 c2, v = .tuple #[.agg #[.int .u64 s.now, .int .u64 s.count, .slice A1 s.links.length c1, .slice A2 s.sess.length c2], .agg #[.int .i64 an.err, str an.text]] ∧ stE.rep W noneAt [.int .u64 s.now, .int .u64 s.count, .slice A1 s.links.length c1, .slice A2 s.sess.length c2] s) (tm.getD 49 undef) W := hk 49
              have k50 : tm.getD 50 undef = .agg #[.int .u64 s.now, .int .u64 s.count, .slice A0 s.links.length c0, .slice B0 s.sess.length d0] := hk 50
              have k51 : tm.getD 51 undef = .slice (some ad) l.length c := hk 51
              have k52 : tm.getD 52 undef = .int .i64 k := hk 52
              have k53 : tm.getD 53 undef = .pointer (some (ad.add k)) := hk 53
              have k54 : tm.getD 54 undef = str z := hk 54
              have k55 : tm.getD 55 undef = .agg #[.int .i64 3, .int .i64 0, .int .u64 0, str z, str [], .int .u64 0] := hk 55
              have k56 : (fun v W => ∃ A1 c1 A2 c2, v = .tuple #[.agg #[.int .u64 s.now, .int .u64 s.count, .slice A1 s.links.length c1, .slice A2 s.sess.length c2], .agg #[.int .i64 an.err, str an.text]] ∧ stE.rep W noneAt [.int .u64 s.now, .int .u64 s.count, .slice A1 s.links.length c1, .slice A2 s.sess.length c2] s) (tm.getD 56 undef) W := hk 56
              have k57 : (fun v W => ∃ A1 c1 A2 c2, v = .agg #[.int .u64 s.now, .int .u64 s.count, .slice A1 s.links.length c1, .slice A2 s.sess.length c2] ∧ stE.rep W noneAt [.int .u64 s.now, .int .u64 s.count, .slice A1 s.links.length c1, .slice A2 s.sess.length c2] s) (tm.getD 57 undef) W := hk 57
              clear hk hsz
              simp only [Rg.putAll, List.setIfInBounds_toArray, List.set_cons_zero, List.set_cons_succ, k50, k51, k52, k53, k54, k55]
              generalize tm.getD 9 undef = u9 at *
              generalize tm.getD 10 undef = u10 at *
              generalize tm.getD 49 undef = u49 at *
              clear k50
              clear k51
              clear k52
              clear k53
              clear k54
              clear k55
              generalize tm.getD 56 undef = u56 at *
              generalize tm.getD 57 undef = u57 at *
              generalize tm.getD 58 undef = u58 at *
              clear k56
              obtain ⟨A1, c1, A2, c2, rfl, hrep1⟩ := k57
              obtain ⟨g9, rfl, hB9, hg9⟩ := k9
              obtain ⟨g10, rfl, hB10, hg10⟩ := k10
              have hne : g9 ≠ g10 := Blk.ne_ hB9 hB10 (by decide)
              have n1 : ¬ g9 = g10 := hne
              have n2 : ¬ g10 = g9 := fun h => hne h.symm
              have l0 := (hB9.cell 0).trans rfl
              have l1 := (hB9.cell 1).trans rfl
              have l2 := (hB9.cell 2).trans rfl
              have l3 := (hB9.cell 3).trans rfl
              have f0 := hB9.frozen 0
              have f1 := hB9.frozen 1
              have f2 := hB9.frozen 2
              have f3 := hB9.frozen 3
              have a0 := (hB10.cell 0).trans rfl
              have a1 := (hB10.cell 1).trans rfl
              have b0 := hB10.frozen 0
              have b1 := hB10.frozen 1
              have hrep3 := st_apart HSE.out (st_apart HSE.out hrep1 hB9 nostr4) hB10 nostr2
              have hcg : Chg [g9] W _ := (Chg.refl [g9] W).four (g := g9) (by simp) (.int .u64 s.now) (.int .u64 s.count) (.slice A1 s.links.length c1) (.slice A2 s.sess.length c2)
              have hS1 := Blk.four hB9 (.int .u64 s.now) (.int .u64 s.count) (.slice A1 s.links.length c1) (.slice A2 s.sess.length c2)
              have hA1 := Blk.two_ (hB10.chg hcg (by simp; omega)) (.int .i64 an.err) (str an.text)
              have hc2 : Chg [g10] _ _ := (Chg.refl [g10] ((((W.setCell ⟨g9, 0, none⟩ (.int .u64 s.now)).setCell ⟨g9, 1, none⟩ (.int .u64 s.count)).setCell ⟨g9, 2, none⟩ (.slice A1 s.links.length c1)).setCell ⟨g9, 3, none⟩ (.slice A2 s.sess.length c2))).two_ (g := g10) (by simp) (.int .i64 an.err) (str an.text)
              have hS2 := hS1.chg hc2 (by simp; omega)
              have hrep2 := stE.mono (stE.chg (stE.chg hrep3 hcg (fun j hj _ => .inl (.inr (by simpa using hj)))) hc2 (fun j hj _ => .inr (by simpa using hj))) (Y := noneAt) (fun j _ h => h.elim)
              have hx2 := (hR.then_ hcg (by simp; omega)).then_ hc2 (by simp; omega)
              obtain ⟨A8, c8, A9, c9, hv49, -⟩ := k49
              rw [hv49]
              clear hv49
              simp only [List.drop_succ_cons, List.drop_zero]
              go_wp2_with fail
              go_meet
              case rel => exact ⟨g9, g10, A1, c1, A2, c2, rfl, rfl, hS2, hrep2, hA1, hx2⟩
          case rest =>
            obtain ⟨g9, g10, A1, c1, A2, c2, rfl, rfl, hT, hrt, hA, hxc⟩ := hcut
            generalize wc = W7 at *
            clear hbz pz
            obtain ⟨ad', z', had, hzk', hbz, pz⟩ := st_at (hsl.ext (hx6.trans' hxc)) (k := k) (by have := HK.out; omega)
            obtain rfl := Option.some.inj had
            obtain rfl : z = z' := Option.some.inj (hzk.out.symm.trans hzk'.out)
            replace hS := hS.ext hxc
            replace hr := stE.ext hr hxc
            have hk := HK.out
            go_upto_region 15 with fail
            go_cut [11, 12] (fun v11 v12 wx => ∃ g11, v11 = .pointer (some ⟨g11, 0, none⟩) ∧ v12 = .bool is ∧ Blk wx g11 48 #[str y.name, str y.url, .int .u64 y.till, .bool y.made] ∧ Ext W7 wx)
            case first =>
              refine Rg.regionX Try.checked.mixed 111 10 8 67 _ _ (by rfl) (by rfl) (by kernel_rfl) [
                (fun x_ _ => x_ = .agg #[.int .u64 s.now, .int .u64 s.count, .slice A0 s.links.length c0, .slice B0 s.sess.length d0]),
                (fun x_ _ => x_ = .slice (some ad) l.length c),
                (fun x_ _ => x_ = .int .i64 k),
                (fun x_ _ => x_ = .pointer (some (ad.add k))),
                (fun x_ _ => x_ = str z),
                (fun x_ _ => x_ = .tuple #[.agg #[str y.name, str y.url, .int .u64 y.till, .bool y.made], .bool is]),
                (fun x_ _ => x_ = .tuple #[.agg #[str y.name, str y.url, .int .u64 y.till, .bool y.made], .bool is]),
                (fun x_ _ => x_ = .agg #[str y.name, str y.url, .int .u64 y.till, .bool y.made]),
                (fun x_ _ => x_ = .bool is),
                (fun v W => ∃ g, v = .pointer (some ⟨g, 0, none⟩) ∧ Blk W g 48 #[str [], str [], .int .u64 0, .bool false] ∧ W7.heap.size ≤ g)] (fun W => Ext W7 W) Ext rfl rfl rfl
                ?st ((Ext.rfl' W7).drew') ?ob ?en ?en2
              case st => exact ⟨fun _ _ _ h _ => h, fun _ _ _ h _ => h, fun _ _ _ h _ => h, fun _ _ _ h _ => h, fun _ _ _ h _ => h, fun _ _ _ h _ => h, fun _ _ _ h _ => h, fun _ _ _ h _ => h, fun _ _ _ h _ => h, fun _ _ _ ⟨g_, h1_, h2_, h3_⟩ hx => ⟨g_, h1_, h2_.ext hx, h3_⟩, trivial⟩
              case ob =>
                refine ⟨Rg.at_run [5] rfl ?_, ?_⟩
                · intro ρ W hR ⟨q5, _⟩
                  replace q5 : ρ 5 = .pointer (some ⟨g1, 0, none⟩) := q5
                  refine ⟨rfl, ?_⟩
                  have c0_ : W.cell? ⟨g1, 0, none⟩ = some (.int .u64 s.now) := ((hS.ext hR).cell 0).trans rfl
                  have c1_ : W.cell? ⟨g1, 1, none⟩ = some (.int .u64 s.count) := ((hS.ext hR).cell 1).trans rfl
                  have c2_ : W.cell? ⟨g1, 2, none⟩ = some (.slice A0 s.links.length c0) := ((hS.ext hR).cell 2).trans rfl
                  have c3_ : W.cell? ⟨g1, 3, none⟩ = some (.slice B0 s.sess.length d0) := ((hS.ext hR).cell 3).trans rfl
                  exact Rg.run_ok (v := .agg #[.int .u64 s.now, .int .u64 s.count, .slice A0 s.links.length c0, .slice B0 s.sess.length d0]) (by simp [execOp, Rg.ev, go_sem, q5, c0_, c1_, c2_, c3_]) ⟨rfl, hR, Ext.rfl' _⟩
                refine ⟨Rg.at_run [6] rfl ?_, ?_⟩
                · intro ρ W hR ⟨q6, _⟩
                  replace q6 : ρ 6 = .slice (some ad) l.length c := q6
                  refine ⟨rfl, ?_⟩
                  exact Rg.run_ok (v := .slice (some ad) l.length c) (by simp [execOp, Rg.ev, go_sem, q6]) ⟨rfl, hR, Ext.rfl' _⟩
                refine ⟨Rg.at_run [8] rfl ?_, ?_⟩
                · intro ρ W hR ⟨q8, _⟩
                  replace q8 : ρ 8 = .int .i64 k := q8
                  refine ⟨rfl, ?_⟩
                  exact Rg.run_ok (v := .int .i64 k) (by simp [execOp, Rg.ev, go_sem, q8]) ⟨rfl, hR, Ext.rfl' _⟩
                refine ⟨Rg.at_run [61, 62] rfl ?_, ?_⟩
                · intro ρ W hR ⟨q61, q62, _⟩
                  replace q61 : ρ 61 = .slice (some ad) l.length c := q61
                  replace q62 : ρ 62 = .int .i64 k := q62
                  refine ⟨rfl, ?_⟩
                  exact Rg.run_ok (v := .pointer (some (ad.add k))) (by simp [execOp, Rg.ev, go_sem, q61, q62, hb0, hk]) ⟨rfl, hR, Ext.rfl' _⟩
                refine ⟨Rg.at_run [63] rfl ?_, ?_⟩
                · intro ρ W hR ⟨q63, _⟩
                  replace q63 : ρ 63 = .pointer (some (ad.add k)) := q63
                  refine ⟨rfl, ?_⟩
                  have hab_ : (ad.add k).block < W7.heap.size := by rw [block_of_add]; exact hbz
                  have c0_ : W.cell? (ad.add k) = some (str z) := (hR.cell (p := ad.add k) hab_).trans pz
                  exact Rg.run_ok (v := str z) (by simp [execOp, Rg.ev, go_sem, q63, c0_]) ⟨rfl, hR, Ext.rfl' _⟩
                refine ⟨Rg.at_run [60, 64] rfl ?_, ?_⟩
                · intro ρ W hR ⟨q60, q64, _⟩
                  replace q60 : ρ 60 = .agg #[.int .u64 s.now, .int .u64 s.count, .slice A0 s.links.length c0, .slice B0 s.sess.length d0] := q60
                  replace q64 : ρ 64 = str z := q64
                  refine ⟨rfl, ?_⟩
                  refine Rg.enter_fn (args := #[.agg #[.int .u64 s.now, .int .u64 s.count, .slice A0 s.links.length c0, .slice B0 s.sess.length d0], str z]) rfl (by simp only [List.map_toArray, List.map_cons, List.map_nil, Rg.ev, q60, q64]) (by kernel_rfl) ?_
                  refine (H2.out W (hxc.trans' hR)).mono ?_
                  rintro e_ w9 ⟨rfl, hxx⟩
                  exact ⟨_, rfl, rfl, hR.trans' hxx, hxx⟩
                refine ⟨Rg.at_run [65] rfl ?_, ?_⟩
                · intro ρ W hR ⟨q65, _⟩
                  replace q65 : ρ 65 = .tuple #[.agg #[str y.name, str y.url, .int .u64 y.till, .bool y.made], .bool is] := q65
                  refine ⟨rfl, ?_⟩
                  exact Rg.run_ok (v := .tuple #[.agg #[str y.name, str y.url, .int .u64 y.till, .bool y.made], .bool is]) (by simp [execOp, Rg.ev, go_sem, q65]) ⟨rfl, hR, Ext.rfl' _⟩
                refine ⟨Rg.at_run [59] rfl ?_, ?_⟩
                · intro ρ W hR ⟨q59, _⟩
                  replace q59 : ρ 59 = .tuple #[.agg #[str y.name, str y.url, .int .u64 y.till, .bool y.made], .bool is] := q59
                  refine ⟨rfl, ?_⟩
                  exact Rg.run_ok (v := .agg #[str y.name, str y.url, .int .u64 y.till, .bool y.made]) (by simp [execOp, Rg.ev, go_sem, q59]) ⟨rfl, hR, Ext.rfl' _⟩
                refine ⟨Rg.at_run [59] rfl ?_, ?_⟩
                · intro ρ W hR ⟨q59, _⟩
                  replace q59 : ρ 59 = .tuple #[.agg #[str y.name, str y.url, .int .u64 y.till, .bool y.made], .bool is] := q59
                  refine ⟨rfl, ?_⟩
                  exact Rg.run_ok (v := .bool is) (by simp [execOp, Rg.ev, go_sem, q59]) ⟨rfl, hR, Ext.rfl' _⟩
                refine ⟨Rg.at_run [] rfl ?_, ?_⟩
                · intro ρ W hR _
                  refine ⟨rfl, ?_⟩
                  exact Rg.run_ok (v := .pointer (some ⟨W.heap.size, 0, none⟩)) (W' := W.alloc (.cells #[str [], str [], .int .u64 0, .bool false] 48)) (by kernel_rfl) ⟨⟨_, rfl, Blk.new _ _ _, hR.size⟩, hR.alloc' _, (Ext.rfl' _).alloc' _⟩
                trivial
              case en =>
                intro tm W hR hsz hk
                rw [Rg.fin_eq (ds := [60, 61, 62, 63, 64, 65, 59, 66, 67, 11]) rfl rfl rfl hsz hk]
                have k11 : (fun v W => ∃ g, v = .pointer (some ⟨g, 0, none⟩) ∧ Blk W g 48 #[str [], str [], .int .u64 0, .bool false] ∧ W7.heap.size ≤ g) (tm.getD 11 undef) W := hk 11
                have k59 : tm.getD 59 undef = .tuple #[.agg #[str y.name, str y.url, .int .u64 y.till, .bool y.made], .bool is] := hk 59
                have k60 : tm.getD 60 undef = .agg #[.int .u64 s.now, .int .u64 s.count, .slice A0 s.links.length c0, .slice B0 s.sess.length d0] := hk 60
                have k61 : tm.getD 61 undef = .slice (some ad) l.length c := hk 61
                have k62 : tm.getD 62 undef = .int .i64 k := hk 62
                have k63 : tm.getD 63 undef = .pointer (some (ad.add k)) := hk 63
                have k64 : tm.getD 64 undef = str z := hk 64
                have k65 : tm.getD 65 undef = .tuple #[.agg #[str y.name, str y.url, .int .u64 y.till, .bool y.made], .bool is] := hk 65
                have k66 : tm.getD 66 undef = .agg #[str y.name, str y.url, .int .u64 y.till, .bool y.made] := hk 66
                have k67 : tm.getD 67 undef = .bool is := hk 67
                clear hk hsz
                simp only [Rg.putAll, List.setIfInBounds_toArray, List.set_cons_zero, List.set_cons_succ, k59, k60, k61, k62, k63, k64, k65, k66, k67]
                generalize tm.getD 11 undef = u11 at *
                clear k59
                clear k60
                clear k61
                clear k62
                clear k63
                clear k64
                clear k65
                clear k66
                clear k67
                obtain ⟨g11, rfl, hB11, hg11⟩ := k11
                have l0 := (hB11.cell 0).trans rfl
                have l1 := (hB11.cell 1).trans rfl
                have l2 := (hB11.cell 2).trans rfl
                have l3 := (hB11.cell 3).trans rfl
                have f0 := hB11.frozen 0
                have f1 := hB11.frozen 1
                have f2 := hB11.frozen 2
                have f3 := hB11.frozen 3
                have hcg : Chg [g11] W _ := (Chg.refl [g11] W).four (g := g11) (by simp) (str y.name) (str y.url) (.int .u64 y.till) (.bool y.made)
                have hL1 := Blk.four hB11 (str y.name) (str y.url) (.int .u64 y.till) (.bool y.made)
                have hx2 := hR.then_ hcg (by simp; omega)
                go_wp2_with fail
                go_meet
                case rel => exact ⟨g11, rfl, rfl, hL1, hx2⟩
              case en2 =>
                intro tm W hR hsz hk
                rw [Rg.fin_eqX (ds := [60, 61, 62, 63, 64, 65, 59, 66, 67, 11]) rfl (by decide) rfl rfl hsz hk]
                have k11 : (fun v W => ∃ g, v = .pointer (some ⟨g, 0, none⟩) ∧ Blk W g 48 #[str [], str [], .int .u64 0, .bool false] ∧ W7.heap.size ≤ g) (tm.getD 11 undef) W := hk 11
                have k59 : tm.getD 59 undef = .tuple #[.agg #[str y.name, str y.url, .int .u64 y.till, .bool y.made], .bool is] := hk 59
                have k60 : tm.getD 60 undef = .agg #[.int .u64 s.now, .int .u64 s.count, .slice A0 s.links.length c0, .slice B0 s.sess.length d0] := hk 60
                have k61 : tm.getD 61 undef = .slice (some ad) l.length c := hk 61
                have k62 : tm.getD 62 undef = .int .i64 k := hk 62
                have k63 : tm.getD 63 undef = .pointer (some (ad.add k)) := hk 63
                have k64 : tm.getD 64 undef = str z := hk 64
                have k65 : tm.getD 65 undef = .tuple #[.agg #[str y.name, str y.url, .int .u64 y.till, .bool y.made], .bool is] := hk 65
                have k66 : tm.getD 66 undef = .agg #[str y.name, str y.url, .int .u64 y.till, .bool y.made] := hk 66
                clear hk hsz
                simp only [Rg.putAll, List.setIfInBounds_toArray, List.set_cons_zero, List.set_cons_succ, k59, k60, k61, k62, k63, k64, k65, k66]
                generalize tm.getD 11 undef = u11 at *
                clear k59
                clear k60
                clear k61
                clear k62
                clear k63
                clear k64
                clear k65
                clear k66
                generalize tm.getD 67 undef = u67 at *
                obtain ⟨g11, rfl, hB11, hg11⟩ := k11
                have l0 := (hB11.cell 0).trans rfl
                have l1 := (hB11.cell 1).trans rfl
                have l2 := (hB11.cell 2).trans rfl
                have l3 := (hB11.cell 3).trans rfl
                have f0 := hB11.frozen 0
                have f1 := hB11.frozen 1
                have f2 := hB11.frozen 2
                have f3 := hB11.frozen 3
                have hcg : Chg [g11] W _ := (Chg.refl [g11] W).four (g := g11) (by simp) (str y.name) (str y.url) (.int .u64 y.till) (.bool y.made)
                have hL1 := Blk.four hB11 (str y.name) (str y.url) (.int .u64 y.till) (.bool y.made)
                have hx2 := hR.then_ hcg (by simp; omega)
                simp only [List.drop_succ_cons, List.drop_zero]
                go_wp2_with fail
                go_meet
                case rel => exact ⟨g11, rfl, rfl, hL1, hx2⟩
            case rest =>
              obtain ⟨g11, rfl, rfl, hL, hxd⟩ := hcut
              generalize wc = W8 at *
              clear hbz pz
              obtain ⟨ad', z', had, hzk', hbz, pz⟩ := st_at (hsl.ext ((hx6.trans' hxc).trans' hxd)) (k := k) (by have := HK.out; omega)
              obtain rfl := Option.some.inj had
              obtain rfl : z = z' := Option.some.inj (hzk.out.symm.trans hzk'.out)
              replace hS := hS.ext hxd
              replace hr := stE.ext hr hxd
              replace hT := hT.ext hxd
              replace hrt := stE.ext hrt hxd
              replace hA := hA.ext hxd
              have hk := HK.out
              rcases HC.out with ⟨rfl, c1_, c2_, c3_⟩ | ⟨rfl, c1_, c2_, c3_⟩
              · rw [c3_] at hL
                rw [c1_, c2_] at hA
                clear c1_ c2_ c3_
                go_wp2_with fail
                refine Rg.regionT Try.checked.mixed 111 43 (by kernel_rfl) [
                  (fun x_ _ => x_ = .agg #[.int .u64 s.now, .int .u64 s.count, .slice A0 s.links.length c0, .slice B0 s.sess.length d0]),
                  (fun x_ _ => x_ = .agg #[.int .u64 s.now, .int .u64 s.count, .slice A1 s.links.length c1, .slice A2 s.sess.length c2]),
                  (fun x_ _ => x_ = .bool true),
                  (fun x_ _ => x_ = .bool false),
                  (fun x_ _ => x_ = .bool false),
                  (fun x_ _ => x_ = .bool true),
                  (fun x_ _ => x_ = .pointer (some ⟨g10, 0, none⟩)),
                  (fun x_ _ => x_ = .int .i64 0),
                  (fun x_ _ => x_ = .bool true),
                  (fun x_ _ => x_ = .bool false),
                  (fun x_ _ => x_ = .bool false),
                  (fun x_ _ => x_ = .bool false),
                  (fun x_ _ => x_ = .bool true),
                  (fun x_ _ => x_ = .bool true),
                  (fun x_ _ => x_ = .pointer (some ⟨g10, 1, none⟩)),
                  (fun x_ _ => x_ = str y.url),
                  (fun x_ _ => x_ = .pointer (some ⟨g11, 1, none⟩)),
                  (fun x_ _ => x_ = str y.url),
                  (fun x_ _ => x_ = .bool false),
                  (fun x_ _ => x_ = .bool false),
                  (fun x_ _ => x_ = .pointer (some ⟨g11, 0, none⟩)),
                  (fun x_ _ => x_ = str z),
                  (fun x_ _ => x_ = .slice (some ad) l.length c),
                  (fun x_ _ => x_ = .int .i64 k),
                  (fun x_ _ => x_ = .pointer (some (ad.add k))),
                  (fun x_ _ => x_ = str z),
                  (fun x_ _ => x_ = .bool false),
                  (fun x_ _ => x_ = .bool false),
                  (fun x_ _ => x_ = .bool false),
                  (fun x_ _ => x_ = .bool false),
                  (fun x_ _ => x_ = .bool false),
                  (fun x_ _ => x_ = .bool true),
                  (fun x_ _ => x_ = .bool false),
                  (fun x_ _ => x_ = .bool false),
                  (fun x_ _ => x_ = undef),
                  (fun x_ _ => x_ = undef),
                  (fun x_ _ => x_ = undef),
                  (fun x_ _ => x_ = undef),
                  (fun x_ _ => x_ = undef),
                  (fun x_ _ => x_ = undef),
                  (fun x_ _ => x_ = undef),
                  (fun x_ _ => x_ = .bool false),
                  (fun x_ _ => x_ = .bool false)] (fun W => Ext W8 W) Ext rfl rfl rfl
                  ?st ((Ext.rfl' W8).drew') ?ob ?en
                case st => exact ⟨fun _ _ _ h _ => h, fun _ _ _ h _ => h, fun _ _ _ h _ => h, fun _ _ _ h _ => h, fun _ _ _ h _ => h, fun _ _ _ h _ => h, fun _ _ _ h _ => h, fun _ _ _ h _ => h, fun _ _ _ h _ => h, fun _ _ _ h _ => h, fun _ _ _ h _ => h, fun _ _ _ h _ => h, fun _ _ _ h _ => h, fun _ _ _ h _ => h, fun _ _ _ h _ => h, fun _ _ _ h _ => h, fun _ _ _ h _ => h, fun _ _ _ h _ => h, fun _ _ _ h _ => h, fun _ _ _ h _ => h, fun _ _ _ h _ => h, fun _ _ _ h _ => h, fun _ _ _ h _ => h, fun _ _ _ h _ => h, fun _ _ _ h _ => h, fun _ _ _ h _ => h, fun _ _ _ h _ => h, fun _ _ _ h _ => h, fun _ _ _ h _ => h, fun _ _ _ h _ => h, fun _ _ _ h _ => h, fun _ _ _ h _ => h, fun _ _ _ h _ => h, fun _ _ _ h _ => h, fun _ _ _ h _ => h, fun _ _ _ h _ => h, fun _ _ _ h _ => h, fun _ _ _ h _ => h, fun _ _ _ h _ => h, fun _ _ _ h _ => h, fun _ _ _ h _ => h, fun _ _ _ h _ => h, fun _ _ _ h _ => h, trivial⟩
                case ob =>
                  refine ⟨Rg.at_run [5] rfl ?_, ?_⟩
                  · intro ρ W hR ⟨q5, _⟩
                    replace q5 : ρ 5 = .pointer (some ⟨g1, 0, none⟩) := q5
                    refine ⟨rfl, ?_⟩
                    have c0_ : W.cell? ⟨g1, 0, none⟩ = some (.int .u64 s.now) := ((hS.ext hR).cell 0).trans rfl
                    have c1_ : W.cell? ⟨g1, 1, none⟩ = some (.int .u64 s.count) := ((hS.ext hR).cell 1).trans rfl
                    have c2_ : W.cell? ⟨g1, 2, none⟩ = some (.slice A0 s.links.length c0) := ((hS.ext hR).cell 2).trans rfl
                    have c3_ : W.cell? ⟨g1, 3, none⟩ = some (.slice B0 s.sess.length d0) := ((hS.ext hR).cell 3).trans rfl
                    exact Rg.run_ok (v := .agg #[.int .u64 s.now, .int .u64 s.count, .slice A0 s.links.length c0, .slice B0 s.sess.length d0]) (by simp [execOp, Rg.ev, go_sem, q5, c0_, c1_, c2_, c3_]) ⟨rfl, hR, Ext.rfl' _⟩
                  refine ⟨Rg.at_run [9] rfl ?_, ?_⟩
                  · intro ρ W hR ⟨q9, _⟩
                    replace q9 : ρ 9 = .pointer (some ⟨g9, 0, none⟩) := q9
                    refine ⟨rfl, ?_⟩
                    have c0_ : W.cell? ⟨g9, 0, none⟩ = some (.int .u64 s.now) := ((hT.ext hR).cell 0).trans rfl
                    have c1_ : W.cell? ⟨g9, 1, none⟩ = some (.int .u64 s.count) := ((hT.ext hR).cell 1).trans rfl
                    have c2_ : W.cell? ⟨g9, 2, none⟩ = some (.slice A1 s.links.length c1) := ((hT.ext hR).cell 2).trans rfl
                    have c3_ : W.cell? ⟨g9, 3, none⟩ = some (.slice A2 s.sess.length c2) := ((hT.ext hR).cell 3).trans rfl
                    exact Rg.run_ok (v := .agg #[.int .u64 s.now, .int .u64 s.count, .slice A1 s.links.length c1, .slice A2 s.sess.length c2]) (by simp [execOp, Rg.ev, go_sem, q9, c0_, c1_, c2_, c3_]) ⟨rfl, hR, Ext.rfl' _⟩
                  refine ⟨Rg.at_run [68, 69] rfl ?_, ?_⟩
                  · intro ρ W hR ⟨q68, q69, _⟩
                    replace q68 : ρ 68 = .agg #[.int .u64 s.now, .int .u64 s.count, .slice A0 s.links.length c0, .slice B0 s.sess.length d0] := q68
                    replace q69 : ρ 69 = .agg #[.int .u64 s.now, .int .u64 s.count, .slice A1 s.links.length c1, .slice A2 s.sess.length c2] := q69
                    refine ⟨rfl, ?_⟩
                    refine Rg.enter_fn (args := #[.agg #[.int .u64 s.now, .int .u64 s.count, .slice A0 s.links.length c0, .slice B0 s.sess.length d0], .agg #[.int .u64 s.now, .int .u64 s.count, .slice A1 s.links.length c1, .slice A2 s.sess.length c2]]) rfl (by simp only [List.map_toArray, List.map_cons, List.map_nil, Rg.ev, q68, q69]) (by kernel_rfl) ?_
                    refine (sameL_b s _ _ W HSE.out (stE.ext hr hR) (stE.ext hrt hR)).mono ?_
                    rintro e_ w9 ⟨rfl, hxx⟩
                    exact ⟨_, rfl, rfl, hR.trans' hxx, hxx⟩
                  refine ⟨Rg.at_run [70] rfl ?_, ?_⟩
                  · intro ρ W hR ⟨q70, _⟩
                    replace q70 : ρ 70 = .bool true := q70
                    refine ⟨rfl, ?_⟩
                    exact Rg.run_ok (v := .bool false) (by simp [execOp, Rg.ev, go_sem, q70]) ⟨rfl, hR, Ext.rfl' _⟩
                  refine ⟨Rg.at_run [71] rfl ?_, ?_⟩
                  · intro ρ W hR ⟨q71, _⟩
                    replace q71 : ρ 71 = .bool false := q71
                    refine ⟨rfl, ?_⟩
                    exact Rg.run_ok (v := .bool false) (by simp [execOp, Rg.ev, go_sem, q71]) ⟨rfl, hR, Ext.rfl' _⟩
                  refine ⟨Rg.at_run [12, 72] rfl ?_, ?_⟩
                  · intro ρ W hR ⟨q12, q72, _⟩
                    replace q12 : ρ 12 = .bool true := q12
                    replace q72 : ρ 72 = .bool false := q72
                    refine ⟨by simp [Rg.wants, q72], ?_⟩
                    exact Rg.run_ok (v := .bool true) (by simp [execOp, Rg.ev, go_sem, q12]) ⟨rfl, hR, Ext.rfl' _⟩
                  refine ⟨Rg.at_run [10, 72] rfl ?_, ?_⟩
                  · intro ρ W hR ⟨q10, q72, _⟩
                    replace q10 : ρ 10 = .pointer (some ⟨g10, 0, none⟩) := q10
                    replace q72 : ρ 72 = .bool false := q72
                    refine ⟨by simp [Rg.wants, q72], ?_⟩
                    exact Rg.run_ok (v := .pointer (some ⟨g10, 0, none⟩)) (by simp [execOp, Rg.ev, go_sem, q10]) ⟨rfl, hR, Ext.rfl' _⟩
                  refine ⟨Rg.at_run [74, 72] rfl ?_, ?_⟩
                  · intro ρ W hR ⟨q74, q72, _⟩
                    replace q74 : ρ 74 = .pointer (some ⟨g10, 0, none⟩) := q74
                    replace q72 : ρ 72 = .bool false := q72
                    refine ⟨by simp [Rg.wants, q72], ?_⟩
                    have c0_ : W.cell? ⟨g10, 0, none⟩ = some (.int .i64 0) := ((hA.ext hR).cell 0).trans rfl
                    exact Rg.run_ok (v := .int .i64 0) (by simp [execOp, Rg.ev, go_sem, q74, c0_]) ⟨rfl, hR, Ext.rfl' _⟩
                  refine ⟨Rg.at_run [75, 72] rfl ?_, ?_⟩
                  · intro ρ W hR ⟨q75, q72, _⟩
                    replace q75 : ρ 75 = .int .i64 0 := q75
                    replace q72 : ρ 72 = .bool false := q72
                    refine ⟨by simp [Rg.wants, q72], ?_⟩
                    exact Rg.run_ok (v := .bool true) (by simp [execOp, Rg.ev, go_sem, q75]) ⟨rfl, hR, Ext.rfl' _⟩
                  refine ⟨Rg.at_run [73, 76, 72] rfl ?_, ?_⟩
                  · intro ρ W hR ⟨q73, q76, q72, _⟩
                    replace q73 : ρ 73 = .bool true := q73
                    replace q76 : ρ 76 = .bool true := q76
                    replace q72 : ρ 72 = .bool false := q72
                    refine ⟨by simp [Rg.wants, q72], ?_⟩
                    exact Rg.run_ok (v := .bool false) (by simp [execOp, Rg.ev, go_sem, q73, q76]) ⟨rfl, hR, Ext.rfl' _⟩
                  refine ⟨Rg.at_run [72, 77] rfl ?_, ?_⟩
                  · intro ρ W hR ⟨q72, q77, _⟩
                    replace q72 : ρ 72 = .bool false := q72
                    replace q77 : ρ 77 = .bool false := q77
                    refine ⟨rfl, ?_⟩
                    exact Rg.run_ok (v := .bool false) (by simp [execOp, Rg.ev, go_sem, q72, q77]) ⟨rfl, hR, Ext.rfl' _⟩
                  refine ⟨Rg.at_run [78] rfl ?_, ?_⟩
                  · intro ρ W hR ⟨q78, _⟩
                    replace q78 : ρ 78 = .bool false := q78
                    refine ⟨rfl, ?_⟩
                    exact Rg.run_ok (v := .bool false) (by simp [execOp, Rg.ev, go_sem, q78]) ⟨rfl, hR, Ext.rfl' _⟩
                  refine ⟨Rg.at_run [12, 79] rfl ?_, ?_⟩
                  · intro ρ W hR ⟨q12, q79, _⟩
                    replace q12 : ρ 12 = .bool true := q12
                    replace q79 : ρ 79 = .bool false := q79
                    refine ⟨by simp [Rg.wants, q79], ?_⟩
                    exact Rg.run_ok (v := .bool true) (by simp [execOp, Rg.ev, go_sem, q12]) ⟨rfl, hR, Ext.rfl' _⟩
                  refine ⟨Rg.at_run [80, 79] rfl ?_, ?_⟩
                  · intro ρ W hR ⟨q80, q79, _⟩
                    replace q80 : ρ 80 = .bool true := q80
                    replace q79 : ρ 79 = .bool false := q79
                    refine ⟨by simp [Rg.wants, q79], ?_⟩
                    exact Rg.run_ok (v := .bool true) (by simp [execOp, Rg.ev, go_sem, q80]) ⟨rfl, hR, Ext.rfl' _⟩
                  refine ⟨Rg.at_run [10, 81] rfl ?_, ?_⟩
                  · intro ρ W hR ⟨q10, q81, _⟩
                    replace q10 : ρ 10 = .pointer (some ⟨g10, 0, none⟩) := q10
                    replace q81 : ρ 81 = .bool true := q81
                    refine ⟨by simp [Rg.wants, q81], ?_⟩
                    exact Rg.run_ok (v := .pointer (some ⟨g10, 1, none⟩)) (by simp [execOp, Rg.ev, go_sem, q10]) ⟨rfl, hR, Ext.rfl' _⟩
                  refine ⟨Rg.at_run [82, 81] rfl ?_, ?_⟩
                  · intro ρ W hR ⟨q82, q81, _⟩
                    replace q82 : ρ 82 = .pointer (some ⟨g10, 1, none⟩) := q82
                    replace q81 : ρ 81 = .bool true := q81
                    refine ⟨by simp [Rg.wants, q81], ?_⟩
                    have c1_ : W.cell? ⟨g10, 1, none⟩ = some (str y.url) := ((hA.ext hR).cell 1).trans rfl
                    exact Rg.run_ok (v := str y.url) (by simp [execOp, Rg.ev, go_sem, q82, c1_]) ⟨rfl, hR, Ext.rfl' _⟩
                  refine ⟨Rg.at_run [11, 81] rfl ?_, ?_⟩
                  · intro ρ W hR ⟨q11, q81, _⟩
                    replace q11 : ρ 11 = .pointer (some ⟨g11, 0, none⟩) := q11
                    replace q81 : ρ 81 = .bool true := q81
                    refine ⟨by simp [Rg.wants, q81], ?_⟩
                    exact Rg.run_ok (v := .pointer (some ⟨g11, 1, none⟩)) (by simp [execOp, Rg.ev, go_sem, q11]) ⟨rfl, hR, Ext.rfl' _⟩
                  refine ⟨Rg.at_run [84, 81] rfl ?_, ?_⟩
                  · intro ρ W hR ⟨q84, q81, _⟩
                    replace q84 : ρ 84 = .pointer (some ⟨g11, 1, none⟩) := q84
                    replace q81 : ρ 81 = .bool true := q81
                    refine ⟨by simp [Rg.wants, q81], ?_⟩
                    have c1_ : W.cell? ⟨g11, 1, none⟩ = some (str y.url) := ((hL.ext hR).cell 1).trans rfl
                    exact Rg.run_ok (v := str y.url) (by simp [execOp, Rg.ev, go_sem, q84, c1_]) ⟨rfl, hR, Ext.rfl' _⟩
                  refine ⟨Rg.at_run [83, 85, 81] rfl ?_, ?_⟩
                  · intro ρ W hR ⟨q83, q85, q81, _⟩
                    replace q83 : ρ 83 = str y.url := q83
                    replace q85 : ρ 85 = str y.url := q85
                    replace q81 : ρ 81 = .bool true := q81
                    refine ⟨by simp [Rg.wants, q81], ?_⟩
                    exact Rg.run_ok (v := .bool false) (by simp [execOp, Rg.ev, go_sem, q83, q85]) ⟨rfl, hR, Ext.rfl' _⟩
                  refine ⟨Rg.at_run [86, 81] rfl ?_, ?_⟩
                  · intro ρ W hR ⟨q86, q81, _⟩
                    replace q86 : ρ 86 = .bool false := q86
                    replace q81 : ρ 81 = .bool true := q81
                    refine ⟨by simp [Rg.wants, q81], ?_⟩
                    exact Rg.run_ok (v := .bool false) (by simp [execOp, Rg.ev, go_sem, q86]) ⟨rfl, hR, Ext.rfl' _⟩
                  refine ⟨Rg.at_run [11, 87] rfl ?_, ?_⟩
                  · intro ρ W hR ⟨q11, q87, _⟩
                    replace q11 : ρ 11 = .pointer (some ⟨g11, 0, none⟩) := q11
                    replace q87 : ρ 87 = .bool false := q87
                    refine ⟨by simp [Rg.wants, q87], ?_⟩
                    exact Rg.run_ok (v := .pointer (some ⟨g11, 0, none⟩)) (by simp [execOp, Rg.ev, go_sem, q11]) ⟨rfl, hR, Ext.rfl' _⟩
                  refine ⟨Rg.at_run [88, 87] rfl ?_, ?_⟩
                  · intro ρ W hR ⟨q88, q87, _⟩
                    replace q88 : ρ 88 = .pointer (some ⟨g11, 0, none⟩) := q88
                    replace q87 : ρ 87 = .bool false := q87
                    refine ⟨by simp [Rg.wants, q87], ?_⟩
                    have c0_ : W.cell? ⟨g11, 0, none⟩ = some (str z) := ((hL.ext hR).cell 0).trans rfl
                    exact Rg.run_ok (v := str z) (by simp [execOp, Rg.ev, go_sem, q88, c0_]) ⟨rfl, hR, Ext.rfl' _⟩
                  refine ⟨Rg.at_run [6, 87] rfl ?_, ?_⟩
                  · intro ρ W hR ⟨q6, q87, _⟩
                    replace q6 : ρ 6 = .slice (some ad) l.length c := q6
                    replace q87 : ρ 87 = .bool false := q87
                    refine ⟨by simp [Rg.wants, q87], ?_⟩
                    exact Rg.run_ok (v := .slice (some ad) l.length c) (by simp [execOp, Rg.ev, go_sem, q6]) ⟨rfl, hR, Ext.rfl' _⟩
                  refine ⟨Rg.at_run [8, 87] rfl ?_, ?_⟩
                  · intro ρ W hR ⟨q8, q87, _⟩
                    replace q8 : ρ 8 = .int .i64 k := q8
                    replace q87 : ρ 87 = .bool false := q87
                    refine ⟨by simp [Rg.wants, q87], ?_⟩
                    exact Rg.run_ok (v := .int .i64 k) (by simp [execOp, Rg.ev, go_sem, q8]) ⟨rfl, hR, Ext.rfl' _⟩
                  refine ⟨Rg.at_run [90, 91, 87] rfl ?_, ?_⟩
                  · intro ρ W hR ⟨q90, q91, q87, _⟩
                    replace q90 : ρ 90 = .slice (some ad) l.length c := q90
                    replace q91 : ρ 91 = .int .i64 k := q91
                    replace q87 : ρ 87 = .bool false := q87
                    refine ⟨by simp [Rg.wants, q87], ?_⟩
                    exact Rg.run_ok (v := .pointer (some (ad.add k))) (by simp [execOp, Rg.ev, go_sem, q90, q91, hb0, hk]) ⟨rfl, hR, Ext.rfl' _⟩
                  refine ⟨Rg.at_run [92, 87] rfl ?_, ?_⟩
                  · intro ρ W hR ⟨q92, q87, _⟩
                    replace q92 : ρ 92 = .pointer (some (ad.add k)) := q92
                    replace q87 : ρ 87 = .bool false := q87
                    refine ⟨by simp [Rg.wants, q87], ?_⟩
                    have hab_ : (ad.add k).block < W8.heap.size := by rw [block_of_add]; exact hbz
                    have c0_ : W.cell? (ad.add k) = some (str z) := (hR.cell (p := ad.add k) hab_).trans pz
                    exact Rg.run_ok (v := str z) (by simp [execOp, Rg.ev, go_sem, q92, c0_]) ⟨rfl, hR, Ext.rfl' _⟩
                  refine ⟨Rg.at_run [89, 93, 87] rfl ?_, ?_⟩
                  · intro ρ W hR ⟨q89, q93, q87, _⟩
                    replace q89 : ρ 89 = str z := q89
                    replace q93 : ρ 93 = str z := q93
                    replace q87 : ρ 87 = .bool false := q87
                    refine ⟨by simp [Rg.wants, q87], ?_⟩
                    exact Rg.run_ok (v := .bool false) (by simp [execOp, Rg.ev, go_sem, q89, q93]) ⟨rfl, hR, Ext.rfl' _⟩
                  refine ⟨Rg.at_run [87, 94, 81] rfl ?_, ?_⟩
                  · intro ρ W hR ⟨q87, q94, q81, _⟩
                    replace q87 : ρ 87 = .bool false := q87
                    replace q94 : ρ 94 = .bool false := q94
                    replace q81 : ρ 81 = .bool true := q81
                    refine ⟨by simp [Rg.wants, q81], ?_⟩
                    exact Rg.run_ok (v := .bool false) (by simp [execOp, Rg.ev, go_sem, q87, q94]) ⟨rfl, hR, Ext.rfl' _⟩
                  refine ⟨Rg.at_run [81, 95, 79] rfl ?_, ?_⟩
                  · intro ρ W hR ⟨q81, q95, q79, _⟩
                    replace q81 : ρ 81 = .bool true := q81
                    replace q95 : ρ 95 = .bool false := q95
                    replace q79 : ρ 79 = .bool false := q79
                    refine ⟨by simp [Rg.wants, q79], ?_⟩
                    exact Rg.run_ok (v := .bool false) (by simp [execOp, Rg.ev, go_sem, q81, q95]) ⟨rfl, hR, Ext.rfl' _⟩
                  refine ⟨Rg.at_run [79, 96] rfl ?_, ?_⟩
                  · intro ρ W hR ⟨q79, q96, _⟩
                    replace q79 : ρ 79 = .bool false := q79
                    replace q96 : ρ 96 = .bool false := q96
                    refine ⟨rfl, ?_⟩
                    exact Rg.run_ok (v := .bool false) (by simp [execOp, Rg.ev, go_sem, q79, q96]) ⟨rfl, hR, Ext.rfl' _⟩
                  refine ⟨Rg.at_run [97] rfl ?_, ?_⟩
                  · intro ρ W hR ⟨q97, _⟩
                    replace q97 : ρ 97 = .bool false := q97
                    refine ⟨rfl, ?_⟩
                    exact Rg.run_ok (v := .bool false) (by simp [execOp, Rg.ev, go_sem, q97]) ⟨rfl, hR, Ext.rfl' _⟩
                  refine ⟨Rg.at_run [12, 98] rfl ?_, ?_⟩
                  · intro ρ W hR ⟨q12, q98, _⟩
                    replace q12 : ρ 12 = .bool true := q12
                    replace q98 : ρ 98 = .bool false := q98
                    refine ⟨by simp [Rg.wants, q98], ?_⟩
                    exact Rg.run_ok (v := .bool true) (by simp [execOp, Rg.ev, go_sem, q12]) ⟨rfl, hR, Ext.rfl' _⟩
                  refine ⟨Rg.at_run [99, 98] rfl ?_, ?_⟩
                  · intro ρ W hR ⟨q99, q98, _⟩
                    replace q99 : ρ 99 = .bool true := q99
                    replace q98 : ρ 98 = .bool false := q98
                    refine ⟨by simp [Rg.wants, q98], ?_⟩
                    exact Rg.run_ok (v := .bool false) (by simp [execOp, Rg.ev, go_sem, q99]) ⟨rfl, hR, Ext.rfl' _⟩
                  refine ⟨Rg.at_run [100, 98] rfl ?_, ?_⟩
                  · intro ρ W hR ⟨q100, q98, _⟩
                    replace q100 : ρ 100 = .bool false := q100
                    replace q98 : ρ 98 = .bool false := q98
                    refine ⟨by simp [Rg.wants, q98], ?_⟩
                    exact Rg.run_ok (v := .bool false) (by simp [execOp, Rg.ev, go_sem, q100]) ⟨rfl, hR, Ext.rfl' _⟩
                  refine ⟨Rg.at_skip [10, 101] rfl (by intro ρ W hR ⟨q10, q101, _⟩; replace q10 : ρ 10 = .pointer (some ⟨g10, 0, none⟩) := q10; replace q101 : ρ 101 = .bool false := q101; exact ⟨by simp [Rg.wants, q101], rfl, Ext.rfl' _⟩), ?_⟩
                  refine ⟨Rg.at_skip [102, 101] rfl (by intro ρ W hR ⟨q102, q101, _⟩; replace q102 : ρ 102 = undef := q102; replace q101 : ρ 101 = .bool false := q101; exact ⟨by simp [Rg.wants, q101], rfl, Ext.rfl' _⟩), ?_⟩
                  refine ⟨Rg.at_skip [103, 101] rfl (by intro ρ W hR ⟨q103, q101, _⟩; replace q103 : ρ 103 = undef := q103; replace q101 : ρ 101 = .bool false := q101; exact ⟨by simp [Rg.wants, q101], rfl, Ext.rfl' _⟩), ?_⟩
                  refine ⟨Rg.at_skip [104, 101] rfl (by intro ρ W hR ⟨q104, q101, _⟩; replace q104 : ρ 104 = undef := q104; replace q101 : ρ 101 = .bool false := q101; exact ⟨by simp [Rg.wants, q101], rfl, Ext.rfl' _⟩), ?_⟩
                  refine ⟨Rg.at_skip [8, 105] rfl (by intro ρ W hR ⟨q8, q105, _⟩; replace q8 : ρ 8 = .int .i64 k := q8; replace q105 : ρ 105 = undef := q105; exact ⟨by simp [Rg.wants, q105, undef], rfl, Ext.rfl' _⟩), ?_⟩
                  refine ⟨Rg.at_skip [106, 105] rfl (by intro ρ W hR ⟨q106, q105, _⟩; replace q106 : ρ 106 = undef := q106; replace q105 : ρ 105 = undef := q105; exact ⟨by simp [Rg.wants, q105, undef], rfl, Ext.rfl' _⟩), ?_⟩
                  refine ⟨Rg.at_skip [105, 107, 101] rfl (by intro ρ W hR ⟨q105, q107, q101, _⟩; replace q105 : ρ 105 = undef := q105; replace q107 : ρ 107 = undef := q107; replace q101 : ρ 101 = .bool false := q101; exact ⟨by simp [Rg.wants, q101], rfl, Ext.rfl' _⟩), ?_⟩
                  refine ⟨Rg.at_run [101, 108, 98] rfl ?_, ?_⟩
                  · intro ρ W hR ⟨q101, q108, q98, _⟩
                    replace q101 : ρ 101 = .bool false := q101
                    replace q108 : ρ 108 = undef := q108
                    replace q98 : ρ 98 = .bool false := q98
                    refine ⟨by simp [Rg.wants, q98], ?_⟩
                    exact Rg.run_ok (v := .bool false) (by simp [execOp, Rg.ev, go_sem, q101, q108]) ⟨rfl, hR, Ext.rfl' _⟩
                  refine ⟨Rg.at_run [98, 109] rfl ?_, ?_⟩
                  · intro ρ W hR ⟨q98, q109, _⟩
                    replace q98 : ρ 98 = .bool false := q98
                    replace q109 : ρ 109 = .bool false := q109
                    refine ⟨rfl, ?_⟩
                    exact Rg.run_ok (v := .bool false) (by simp [execOp, Rg.ev, go_sem, q98, q109]) ⟨rfl, hR, Ext.rfl' _⟩
                  trivial
                case en =>
                  intro tm W hR hsz hk
                  rw [Rg.fin_eq (ds := [68, 69, 70, 71, 72, 73, 74, 75, 76, 77, 78, 79, 80, 81, 82, 83, 84, 85, 86, 87, 88, 89, 90, 91, 92, 93, 94, 95, 96, 97, 98, 99, 100, 101, 102, 103, 104, 105, 106, 107, 108, 109, 110]) rfl rfl rfl hsz hk]
                  have k68 : tm.getD 68 undef = .agg #[.int .u64 s.now, .int .u64 s.count, .slice A0 s.links.length c0, .slice B0 s.sess.length d0] := hk 68
                  have k69 : tm.getD 69 undef = .agg #[.int .u64 s.now, .int .u64 s.count, .slice A1 s.links.length c1, .slice A2 s.sess.length c2] := hk 69
                  have k70 : tm.getD 70 undef = .bool true := hk 70
                  have k71 : tm.getD 71 undef = .bool false := hk 71
                  have k72 : tm.getD 72 undef = .bool false := hk 72
                  have k73 : tm.getD 73 undef = .bool true := hk 73
                  have k74 : tm.getD 74 undef = .pointer (some ⟨g10, 0, none⟩) := hk 74
                  have k75 : tm.getD 75 undef = .int .i64 0 := hk 75
                  have k76 : tm.getD 76 undef = .bool true := hk 76
                  have k77 : tm.getD 77 undef = .bool false := hk 77
                  have k78 : tm.getD 78 undef = .bool false := hk 78
                  have k79 : tm.getD 79 undef = .bool false := hk 79
                  have k80 : tm.getD 80 undef = .bool true := hk 80
                  have k81 : tm.getD 81 undef = .bool true := hk 81
                  have k82 : tm.getD 82 undef = .pointer (some ⟨g10, 1, none⟩) := hk 82
                  have k83 : tm.getD 83 undef = str y.url := hk 83
                  have k84 : tm.getD 84 undef = .pointer (some ⟨g11, 1, none⟩) := hk 84
                  have k85 : tm.getD 85 undef = str y.url := hk 85
                  have k86 : tm.getD 86 undef = .bool false := hk 86
                  have k87 : tm.getD 87 undef = .bool false := hk 87
                  have k88 : tm.getD 88 undef = .pointer (some ⟨g11, 0, none⟩) := hk 88
                  have k89 : tm.getD 89 undef = str z := hk 89
                  have k90 : tm.getD 90 undef = .slice (some ad) l.length c := hk 90
                  have k91 : tm.getD 91 undef = .int .i64 k := hk 91
                  have k92 : tm.getD 92 undef = .pointer (some (ad.add k)) := hk 92
                  have k93 : tm.getD 93 undef = str z := hk 93
                  have k94 : tm.getD 94 undef = .bool false := hk 94
                  have k95 : tm.getD 95 undef = .bool false := hk 95
                  have k96 : tm.getD 96 undef = .bool false := hk 96
                  have k97 : tm.getD 97 undef = .bool false := hk 97
                  have k98 : tm.getD 98 undef = .bool false := hk 98
                  have k99 : tm.getD 99 undef = .bool true := hk 99
                  have k100 : tm.getD 100 undef = .bool false := hk 100
                  have k101 : tm.getD 101 undef = .bool false := hk 101
                  have k102 : tm.getD 102 undef = undef := hk 102
                  have k103 : tm.getD 103 undef = undef := hk 103
                  have k104 : tm.getD 104 undef = undef := hk 104
                  have k105 : tm.getD 105 undef = undef := hk 105
                  have k106 : tm.getD 106 undef = undef := hk 106
                  have k107 : tm.getD 107 undef = undef := hk 107
                  have k108 : tm.getD 108 undef = undef := hk 108
                  have k109 : tm.getD 109 undef = .bool false := hk 109
                  have k110 : tm.getD 110 undef = .bool false := hk 110
                  clear hk hsz
                  simp only [Rg.putAll, List.setIfInBounds_toArray, List.set_cons_zero, List.set_cons_succ, k68, k69, k70, k71, k72, k73, k74, k75, k76, k77, k78, k79, k80, k81, k82, k83, k84, k85, k86, k87, k88, k89, k90, k91, k92, k93, k94, k95, k96, k97, k98, k99, k100, k101, k102, k103, k104, k105, k106, k107, k108, k109, k110]
                  clear k68
                  clear k69
                  clear k70
                  clear k71
                  clear k72
                  clear k73
                  clear k74
                  clear k75
                  clear k76
                  clear k77
                  clear k78
                  clear k79
                  clear k80
                  clear k81
                  clear k82
                  clear k83
                  clear k84
                  clear k85
                  clear k86
                  clear k87
                  clear k88
                  clear k89
                  clear k90
                  clear k91
                  clear k92
                  clear k93
                  clear k94
                  clear k95
                  clear k96
                  clear k97
                  clear k98
                  clear k99
                  clear k100
                  clear k101
                  clear k102
                  clear k103
                  clear k104
                  clear k105
                  clear k106
                  clear k107
                  clear k108
                  clear k109
                  clear k110
                  refine Rg.nil_list ?_
                  go_wp2_with fail
                  go_roundw
                  case rel => exact ⟨k + 1, by omega, by go_num, (((hx6.trans' hxc).trans' hxd).trans' hR)⟩
                  case measure => simp [intOf]; omega
              · have hk0 : k = 0 := by
                  rcases Nat.eq_zero_or_pos k with h | h
                  · exact h
                  · obtain ⟨u, hu, hu2⟩ := HZ.out h
                    exact absurd (by rw [← hu2]; exact lfind_of hi.rise hu) (c3_ u)
                have HK0 := hide hk0
                rw [c1_, c2_] at hA
                clear c1_ c2_ c3_ hk0
                go_wp2_with fail
                refine Rg.regionT Try.checked.mixed 111 43 (by kernel_rfl) [
                  (fun x_ _ => x_ = .agg #[.int .u64 s.now, .int .u64 s.count, .slice A0 s.links.length c0, .slice B0 s.sess.length d0]),
                  (fun x_ _ => x_ = .agg #[.int .u64 s.now, .int .u64 s.count, .slice A1 s.links.length c1, .slice A2 s.sess.length c2]),
                  (fun x_ _ => x_ = .bool true),
                  (fun x_ _ => x_ = .bool false),
                  (fun x_ _ => x_ = .bool false),
                  (fun x_ _ => x_ = .bool false),
                  (fun x_ _ => x_ = .pointer (some ⟨g10, 0, none⟩)),
                  (fun x_ _ => x_ = .int .i64 10),
                  (fun x_ _ => x_ = .bool false),
                  (fun x_ _ => x_ = .bool false),
                  (fun x_ _ => x_ = .bool false),
                  (fun x_ _ => x_ = .bool false),
                  (fun x_ _ => x_ = .bool false),
                  (fun x_ _ => x_ = .bool false),
                  (fun x_ _ => x_ = undef),
                  (fun x_ _ => x_ = undef),
                  (fun x_ _ => x_ = undef),
                  (fun x_ _ => x_ = undef),
                  (fun x_ _ => x_ = undef),
                  (fun x_ _ => x_ = undef),
                  (fun x_ _ => x_ = undef),
                  (fun x_ _ => x_ = undef),
                  (fun x_ _ => x_ = undef),
                  (fun x_ _ => x_ = undef),
                  (fun x_ _ => x_ = undef),
                  (fun x_ _ => x_ = undef),
                  (fun x_ _ => x_ = undef),
                  (fun x_ _ => x_ = undef),
                  (fun x_ _ => x_ = .bool false),
                  (fun x_ _ => x_ = .bool false),
                  (fun x_ _ => x_ = .bool false),
                  (fun x_ _ => x_ = .bool false),
                  (fun x_ _ => x_ = .bool true),
                  (fun x_ _ => x_ = .bool true),
                  (fun x_ _ => x_ = .pointer (some ⟨g10, 0, none⟩)),
                  (fun x_ _ => x_ = .int .i64 10),
                  (fun x_ _ => x_ = .bool false),
                  (fun x_ _ => x_ = .bool false),
                  (fun x_ _ => x_ = .int .i64 k),
                  (fun x_ _ => x_ = .bool false),
                  (fun x_ _ => x_ = .bool false),
                  (fun x_ _ => x_ = .bool false),
                  (fun x_ _ => x_ = .bool false)] (fun W => Ext W8 W) Ext rfl rfl rfl
                  ?st ((Ext.rfl' W8).drew') ?ob ?en
                case st => exact ⟨fun _ _ _ h _ => h, fun _ _ _ h _ => h, fun _ _ _ h _ => h, fun _ _ _ h _ => h, fun _ _ _ h _ => h, fun _ _ _ h _ => h, fun _ _ _ h _ => h, fun _ _ _ h _ => h, fun _ _ _ h _ => h, fun _ _ _ h _ => h, fun _ _ _ h _ => h, fun _ _ _ h _ => h, fun _ _ _ h _ => h, fun _ _ _ h _ => h, fun _ _ _ h _ => h, fun _ _ _ h _ => h, fun _ _ _ h _ => h, fun _ _ _ h _ => h, fun _ _ _ h _ => h, fun _ _ _ h _ => h, fun _ _ _ h _ => h, fun _ _ _ h _ => h, fun _ _ _ h _ => h, fun _ _ _ h _ => h, fun _ _ _ h _ => h, fun _ _ _ h _ => h, fun _ _ _ h _ => h, fun _ _ _ h _ => h, fun _ _ _ h _ => h, fun _ _ _ h _ => h, fun _ _ _ h _ => h, fun _ _ _ h _ => h, fun _ _ _ h _ => h, fun _ _ _ h _ => h, fun _ _ _ h _ => h, fun _ _ _ h _ => h, fun _ _ _ h _ => h, fun _ _ _ h _ => h, fun _ _ _ h _ => h, fun _ _ _ h _ => h, fun _ _ _ h _ => h, fun _ _ _ h _ => h, fun _ _ _ h _ => h, trivial⟩
                case ob =>
                  refine ⟨Rg.at_run [5] rfl ?_, ?_⟩
                  · intro ρ W hR ⟨q5, _⟩
                    replace q5 : ρ 5 = .pointer (some ⟨g1, 0, none⟩) := q5
                    refine ⟨rfl, ?_⟩
                    have c0_ : W.cell? ⟨g1, 0, none⟩ = some (.int .u64 s.now) := ((hS.ext hR).cell 0).trans rfl
                    have c1_ : W.cell? ⟨g1, 1, none⟩ = some (.int .u64 s.count) := ((hS.ext hR).cell 1).trans rfl
                    have c2_ : W.cell? ⟨g1, 2, none⟩ = some (.slice A0 s.links.length c0) := ((hS.ext hR).cell 2).trans rfl
                    have c3_ : W.cell? ⟨g1, 3, none⟩ = some (.slice B0 s.sess.length d0) := ((hS.ext hR).cell 3).trans rfl
                    exact Rg.run_ok (v := .agg #[.int .u64 s.now, .int .u64 s.count, .slice A0 s.links.length c0, .slice B0 s.sess.length d0]) (by simp [execOp, Rg.ev, go_sem, q5, c0_, c1_, c2_, c3_]) ⟨rfl, hR, Ext.rfl' _⟩
                  refine ⟨Rg.at_run [9] rfl ?_, ?_⟩
                  · intro ρ W hR ⟨q9, _⟩
                    replace q9 : ρ 9 = .pointer (some ⟨g9, 0, none⟩) := q9
                    refine ⟨rfl, ?_⟩
                    have c0_ : W.cell? ⟨g9, 0, none⟩ = some (.int .u64 s.now) := ((hT.ext hR).cell 0).trans rfl
                    have c1_ : W.cell? ⟨g9, 1, none⟩ = some (.int .u64 s.count) := ((hT.ext hR).cell 1).trans rfl
                    have c2_ : W.cell? ⟨g9, 2, none⟩ = some (.slice A1 s.links.length c1) := ((hT.ext hR).cell 2).trans rfl
                    have c3_ : W.cell? ⟨g9, 3, none⟩ = some (.slice A2 s.sess.length c2) := ((hT.ext hR).cell 3).trans rfl
                    exact Rg.run_ok (v := .agg #[.int .u64 s.now, .int .u64 s.count, .slice A1 s.links.length c1, .slice A2 s.sess.length c2]) (by simp [execOp, Rg.ev, go_sem, q9, c0_, c1_, c2_, c3_]) ⟨rfl, hR, Ext.rfl' _⟩
                  refine ⟨Rg.at_run [68, 69] rfl ?_, ?_⟩
                  · intro ρ W hR ⟨q68, q69, _⟩
                    replace q68 : ρ 68 = .agg #[.int .u64 s.now, .int .u64 s.count, .slice A0 s.links.length c0, .slice B0 s.sess.length d0] := q68
                    replace q69 : ρ 69 = .agg #[.int .u64 s.now, .int .u64 s.count, .slice A1 s.links.length c1, .slice A2 s.sess.length c2] := q69
                    refine ⟨rfl, ?_⟩
                    refine Rg.enter_fn (args := #[.agg #[.int .u64 s.now, .int .u64 s.count, .slice A0 s.links.length c0, .slice B0 s.sess.length d0], .agg #[.int .u64 s.now, .int .u64 s.count, .slice A1 s.links.length c1, .slice A2 s.sess.length c2]]) rfl (by simp only [List.map_toArray, List.map_cons, List.map_nil, Rg.ev, q68, q69]) (by kernel_rfl) ?_
                    refine (sameL_b s _ _ W HSE.out (stE.ext hr hR) (stE.ext hrt hR)).mono ?_
                    rintro e_ w9 ⟨rfl, hxx⟩
                    exact ⟨_, rfl, rfl, hR.trans' hxx, hxx⟩
                  refine ⟨Rg.at_run [70] rfl ?_, ?_⟩
                  · intro ρ W hR ⟨q70, _⟩
                    replace q70 : ρ 70 = .bool true := q70
                    refine ⟨rfl, ?_⟩
                    exact Rg.run_ok (v := .bool false) (by simp [execOp, Rg.ev, go_sem, q70]) ⟨rfl, hR, Ext.rfl' _⟩
                  refine ⟨Rg.at_run [71] rfl ?_, ?_⟩
                  · intro ρ W hR ⟨q71, _⟩
                    replace q71 : ρ 71 = .bool false := q71
                    refine ⟨rfl, ?_⟩
                    exact Rg.run_ok (v := .bool false) (by simp [execOp, Rg.ev, go_sem, q71]) ⟨rfl, hR, Ext.rfl' _⟩
                  refine ⟨Rg.at_run [12, 72] rfl ?_, ?_⟩
                  · intro ρ W hR ⟨q12, q72, _⟩
                    replace q12 : ρ 12 = .bool false := q12
                    replace q72 : ρ 72 = .bool false := q72
                    refine ⟨by simp [Rg.wants, q72], ?_⟩
                    exact Rg.run_ok (v := .bool false) (by simp [execOp, Rg.ev, go_sem, q12]) ⟨rfl, hR, Ext.rfl' _⟩
                  refine ⟨Rg.at_run [10, 72] rfl ?_, ?_⟩
                  · intro ρ W hR ⟨q10, q72, _⟩
                    replace q10 : ρ 10 = .pointer (some ⟨g10, 0, none⟩) := q10
                    replace q72 : ρ 72 = .bool false := q72
                    refine ⟨by simp [Rg.wants, q72], ?_⟩
                    exact Rg.run_ok (v := .pointer (some ⟨g10, 0, none⟩)) (by simp [execOp, Rg.ev, go_sem, q10]) ⟨rfl, hR, Ext.rfl' _⟩
                  refine ⟨Rg.at_run [74, 72] rfl ?_, ?_⟩
                  · intro ρ W hR ⟨q74, q72, _⟩
                    replace q74 : ρ 74 = .pointer (some ⟨g10, 0, none⟩) := q74
                    replace q72 : ρ 72 = .bool false := q72
                    refine ⟨by simp [Rg.wants, q72], ?_⟩
                    have c0_ : W.cell? ⟨g10, 0, none⟩ = some (.int .i64 10) := ((hA.ext hR).cell 0).trans rfl
                    exact Rg.run_ok (v := .int .i64 10) (by simp [execOp, Rg.ev, go_sem, q74, c0_]) ⟨rfl, hR, Ext.rfl' _⟩
                  refine ⟨Rg.at_run [75, 72] rfl ?_, ?_⟩
                  · intro ρ W hR ⟨q75, q72, _⟩
                    replace q75 : ρ 75 = .int .i64 10 := q75
                    replace q72 : ρ 72 = .bool false := q72
                    refine ⟨by simp [Rg.wants, q72], ?_⟩
                    exact Rg.run_ok (v := .bool false) (by simp [execOp, Rg.ev, go_sem, q75]) ⟨rfl, hR, Ext.rfl' _⟩
                  refine ⟨Rg.at_run [73, 76, 72] rfl ?_, ?_⟩
                  · intro ρ W hR ⟨q73, q76, q72, _⟩
                    replace q73 : ρ 73 = .bool false := q73
                    replace q76 : ρ 76 = .bool false := q76
                    replace q72 : ρ 72 = .bool false := q72
                    refine ⟨by simp [Rg.wants, q72], ?_⟩
                    exact Rg.run_ok (v := .bool false) (by simp [execOp, Rg.ev, go_sem, q73, q76]) ⟨rfl, hR, Ext.rfl' _⟩
                  refine ⟨Rg.at_run [72, 77] rfl ?_, ?_⟩
                  · intro ρ W hR ⟨q72, q77, _⟩
                    replace q72 : ρ 72 = .bool false := q72
                    replace q77 : ρ 77 = .bool false := q77
                    refine ⟨rfl, ?_⟩
                    exact Rg.run_ok (v := .bool false) (by simp [execOp, Rg.ev, go_sem, q72, q77]) ⟨rfl, hR, Ext.rfl' _⟩
                  refine ⟨Rg.at_run [78] rfl ?_, ?_⟩
                  · intro ρ W hR ⟨q78, _⟩
                    replace q78 : ρ 78 = .bool false := q78
                    refine ⟨rfl, ?_⟩
                    exact Rg.run_ok (v := .bool false) (by simp [execOp, Rg.ev, go_sem, q78]) ⟨rfl, hR, Ext.rfl' _⟩
                  refine ⟨Rg.at_run [12, 79] rfl ?_, ?_⟩
                  · intro ρ W hR ⟨q12, q79, _⟩
                    replace q12 : ρ 12 = .bool false := q12
                    replace q79 : ρ 79 = .bool false := q79
                    refine ⟨by simp [Rg.wants, q79], ?_⟩
                    exact Rg.run_ok (v := .bool false) (by simp [execOp, Rg.ev, go_sem, q12]) ⟨rfl, hR, Ext.rfl' _⟩
                  refine ⟨Rg.at_run [80, 79] rfl ?_, ?_⟩
                  · intro ρ W hR ⟨q80, q79, _⟩
                    replace q80 : ρ 80 = .bool false := q80
                    replace q79 : ρ 79 = .bool false := q79
                    refine ⟨by simp [Rg.wants, q79], ?_⟩
                    exact Rg.run_ok (v := .bool false) (by simp [execOp, Rg.ev, go_sem, q80]) ⟨rfl, hR, Ext.rfl' _⟩
                  refine ⟨Rg.at_skip [10, 81] rfl (by intro ρ W hR ⟨q10, q81, _⟩; replace q10 : ρ 10 = .pointer (some ⟨g10, 0, none⟩) := q10; replace q81 : ρ 81 = .bool false := q81; exact ⟨by simp [Rg.wants, q81], rfl, Ext.rfl' _⟩), ?_⟩
                  refine ⟨Rg.at_skip [82, 81] rfl (by intro ρ W hR ⟨q82, q81, _⟩; replace q82 : ρ 82 = undef := q82; replace q81 : ρ 81 = .bool false := q81; exact ⟨by simp [Rg.wants, q81], rfl, Ext.rfl' _⟩), ?_⟩
                  refine ⟨Rg.at_skip [11, 81] rfl (by intro ρ W hR ⟨q11, q81, _⟩; replace q11 : ρ 11 = .pointer (some ⟨g11, 0, none⟩) := q11; replace q81 : ρ 81 = .bool false := q81; exact ⟨by simp [Rg.wants, q81], rfl, Ext.rfl' _⟩), ?_⟩
                  refine ⟨Rg.at_skip [84, 81] rfl (by intro ρ W hR ⟨q84, q81, _⟩; replace q84 : ρ 84 = undef := q84; replace q81 : ρ 81 = .bool false := q81; exact ⟨by simp [Rg.wants, q81], rfl, Ext.rfl' _⟩), ?_⟩
                  refine ⟨Rg.at_skip [83, 85, 81] rfl (by intro ρ W hR ⟨q83, q85, q81, _⟩; replace q83 : ρ 83 = undef := q83; replace q85 : ρ 85 = undef := q85; replace q81 : ρ 81 = .bool false := q81; exact ⟨by simp [Rg.wants, q81], rfl, Ext.rfl' _⟩), ?_⟩
                  refine ⟨Rg.at_skip [86, 81] rfl (by intro ρ W hR ⟨q86, q81, _⟩; replace q86 : ρ 86 = undef := q86; replace q81 : ρ 81 = .bool false := q81; exact ⟨by simp [Rg.wants, q81], rfl, Ext.rfl' _⟩), ?_⟩
                  refine ⟨Rg.at_skip [11, 87] rfl (by intro ρ W hR ⟨q11, q87, _⟩; replace q11 : ρ 11 = .pointer (some ⟨g11, 0, none⟩) := q11; replace q87 : ρ 87 = undef := q87; exact ⟨by simp [Rg.wants, q87, undef], rfl, Ext.rfl' _⟩), ?_⟩
                  refine ⟨Rg.at_skip [88, 87] rfl (by intro ρ W hR ⟨q88, q87, _⟩; replace q88 : ρ 88 = undef := q88; replace q87 : ρ 87 = undef := q87; exact ⟨by simp [Rg.wants, q87, undef], rfl, Ext.rfl' _⟩), ?_⟩
                  refine ⟨Rg.at_skip [6, 87] rfl (by intro ρ W hR ⟨q6, q87, _⟩; replace q6 : ρ 6 = .slice (some ad) l.length c := q6; replace q87 : ρ 87 = undef := q87; exact ⟨by simp [Rg.wants, q87, undef], rfl, Ext.rfl' _⟩), ?_⟩
                  refine ⟨Rg.at_skip [8, 87] rfl (by intro ρ W hR ⟨q8, q87, _⟩; replace q8 : ρ 8 = .int .i64 k := q8; replace q87 : ρ 87 = undef := q87; exact ⟨by simp [Rg.wants, q87, undef], rfl, Ext.rfl' _⟩), ?_⟩
                  refine ⟨Rg.at_skip [90, 91, 87] rfl (by intro ρ W hR ⟨q90, q91, q87, _⟩; replace q90 : ρ 90 = undef := q90; replace q91 : ρ 91 = undef := q91; replace q87 : ρ 87 = undef := q87; exact ⟨by simp [Rg.wants, q87, undef], rfl, Ext.rfl' _⟩), ?_⟩
                  refine ⟨Rg.at_skip [92, 87] rfl (by intro ρ W hR ⟨q92, q87, _⟩; replace q92 : ρ 92 = undef := q92; replace q87 : ρ 87 = undef := q87; exact ⟨by simp [Rg.wants, q87, undef], rfl, Ext.rfl' _⟩), ?_⟩
                  refine ⟨Rg.at_skip [89, 93, 87] rfl (by intro ρ W hR ⟨q89, q93, q87, _⟩; replace q89 : ρ 89 = undef := q89; replace q93 : ρ 93 = undef := q93; replace q87 : ρ 87 = undef := q87; exact ⟨by simp [Rg.wants, q87, undef], rfl, Ext.rfl' _⟩), ?_⟩
                  refine ⟨Rg.at_skip [87, 94, 81] rfl (by intro ρ W hR ⟨q87, q94, q81, _⟩; replace q87 : ρ 87 = undef := q87; replace q94 : ρ 94 = undef := q94; replace q81 : ρ 81 = .bool false := q81; exact ⟨by simp [Rg.wants, q81], rfl, Ext.rfl' _⟩), ?_⟩
                  refine ⟨Rg.at_run [81, 95, 79] rfl ?_, ?_⟩
                  · intro ρ W hR ⟨q81, q95, q79, _⟩
                    replace q81 : ρ 81 = .bool false := q81
                    replace q95 : ρ 95 = undef := q95
                    replace q79 : ρ 79 = .bool false := q79
                    refine ⟨by simp [Rg.wants, q79], ?_⟩
                    exact Rg.run_ok (v := .bool false) (by simp [execOp, Rg.ev, go_sem, q81, q95]) ⟨rfl, hR, Ext.rfl' _⟩
                  refine ⟨Rg.at_run [79, 96] rfl ?_, ?_⟩
                  · intro ρ W hR ⟨q79, q96, _⟩
                    replace q79 : ρ 79 = .bool false := q79
                    replace q96 : ρ 96 = .bool false := q96
                    refine ⟨rfl, ?_⟩
                    exact Rg.run_ok (v := .bool false) (by simp [execOp, Rg.ev, go_sem, q79, q96]) ⟨rfl, hR, Ext.rfl' _⟩
                  refine ⟨Rg.at_run [97] rfl ?_, ?_⟩
                  · intro ρ W hR ⟨q97, _⟩
                    replace q97 : ρ 97 = .bool false := q97
                    refine ⟨rfl, ?_⟩
                    exact Rg.run_ok (v := .bool false) (by simp [execOp, Rg.ev, go_sem, q97]) ⟨rfl, hR, Ext.rfl' _⟩
                  refine ⟨Rg.at_run [12, 98] rfl ?_, ?_⟩
                  · intro ρ W hR ⟨q12, q98, _⟩
                    replace q12 : ρ 12 = .bool false := q12
                    replace q98 : ρ 98 = .bool false := q98
                    refine ⟨by simp [Rg.wants, q98], ?_⟩
                    exact Rg.run_ok (v := .bool false) (by simp [execOp, Rg.ev, go_sem, q12]) ⟨rfl, hR, Ext.rfl' _⟩
                  refine ⟨Rg.at_run [99, 98] rfl ?_, ?_⟩
                  · intro ρ W hR ⟨q99, q98, _⟩
                    replace q99 : ρ 99 = .bool false := q99
                    replace q98 : ρ 98 = .bool false := q98
                    refine ⟨by simp [Rg.wants, q98], ?_⟩
                    exact Rg.run_ok (v := .bool true) (by simp [execOp, Rg.ev, go_sem, q99]) ⟨rfl, hR, Ext.rfl' _⟩
                  refine ⟨Rg.at_run [100, 98] rfl ?_, ?_⟩
                  · intro ρ W hR ⟨q100, q98, _⟩
                    replace q100 : ρ 100 = .bool true := q100
                    replace q98 : ρ 98 = .bool false := q98
                    refine ⟨by simp [Rg.wants, q98], ?_⟩
                    exact Rg.run_ok (v := .bool true) (by simp [execOp, Rg.ev, go_sem, q100]) ⟨rfl, hR, Ext.rfl' _⟩
                  refine ⟨Rg.at_run [10, 101] rfl ?_, ?_⟩
                  · intro ρ W hR ⟨q10, q101, _⟩
                    replace q10 : ρ 10 = .pointer (some ⟨g10, 0, none⟩) := q10
                    replace q101 : ρ 101 = .bool true := q101
                    refine ⟨by simp [Rg.wants, q101], ?_⟩
                    exact Rg.run_ok (v := .pointer (some ⟨g10, 0, none⟩)) (by simp [execOp, Rg.ev, go_sem, q10]) ⟨rfl, hR, Ext.rfl' _⟩
                  refine ⟨Rg.at_run [102, 101] rfl ?_, ?_⟩
                  · intro ρ W hR ⟨q102, q101, _⟩
                    replace q102 : ρ 102 = .pointer (some ⟨g10, 0, none⟩) := q102
                    replace q101 : ρ 101 = .bool true := q101
                    refine ⟨by simp [Rg.wants, q101], ?_⟩
                    have c0_ : W.cell? ⟨g10, 0, none⟩ = some (.int .i64 10) := ((hA.ext hR).cell 0).trans rfl
                    exact Rg.run_ok (v := .int .i64 10) (by simp [execOp, Rg.ev, go_sem, q102, c0_]) ⟨rfl, hR, Ext.rfl' _⟩
                  refine ⟨Rg.at_run [103, 101] rfl ?_, ?_⟩
                  · intro ρ W hR ⟨q103, q101, _⟩
                    replace q103 : ρ 103 = .int .i64 10 := q103
                    replace q101 : ρ 101 = .bool true := q101
                    refine ⟨by simp [Rg.wants, q101], ?_⟩
                    exact Rg.run_ok (v := .bool false) (by simp [execOp, Rg.ev, go_sem, q103]) ⟨rfl, hR, Ext.rfl' _⟩
                  refine ⟨Rg.at_run [104, 101] rfl ?_, ?_⟩
                  · intro ρ W hR ⟨q104, q101, _⟩
                    replace q104 : ρ 104 = .bool false := q104
                    replace q101 : ρ 101 = .bool true := q101
                    refine ⟨by simp [Rg.wants, q101], ?_⟩
                    exact Rg.run_ok (v := .bool false) (by simp [execOp, Rg.ev, go_sem, q104]) ⟨rfl, hR, Ext.rfl' _⟩
                  refine ⟨Rg.at_run [8, 105] rfl ?_, ?_⟩
                  · intro ρ W hR ⟨q8, q105, _⟩
                    replace q8 : ρ 8 = .int .i64 k := q8
                    replace q105 : ρ 105 = .bool false := q105
                    refine ⟨by simp [Rg.wants, q105], ?_⟩
                    exact Rg.run_ok (v := .int .i64 k) (by simp [execOp, Rg.ev, go_sem, q8]) ⟨rfl, hR, Ext.rfl' _⟩
                  refine ⟨Rg.at_run [106, 105] rfl ?_, ?_⟩
                  · intro ρ W hR ⟨q106, q105, _⟩
                    replace q106 : ρ 106 = .int .i64 k := q106
                    replace q105 : ρ 105 = .bool false := q105
                    refine ⟨by simp [Rg.wants, q105], ?_⟩
                    have hk0_ := HK0.out
                    exact Rg.run_ok (v := .bool false) (by simp [execOp, Rg.ev, go_sem, q106, hk0_]) ⟨rfl, hR, Ext.rfl' _⟩
                  refine ⟨Rg.at_run [105, 107, 101] rfl ?_, ?_⟩
                  · intro ρ W hR ⟨q105, q107, q101, _⟩
                    replace q105 : ρ 105 = .bool false := q105
                    replace q107 : ρ 107 = .bool false := q107
                    replace q101 : ρ 101 = .bool true := q101
                    refine ⟨by simp [Rg.wants, q101], ?_⟩
                    exact Rg.run_ok (v := .bool false) (by simp [execOp, Rg.ev, go_sem, q105, q107]) ⟨rfl, hR, Ext.rfl' _⟩
                  refine ⟨Rg.at_run [101, 108, 98] rfl ?_, ?_⟩
                  · intro ρ W hR ⟨q101, q108, q98, _⟩
                    replace q101 : ρ 101 = .bool true := q101
                    replace q108 : ρ 108 = .bool false := q108
                    replace q98 : ρ 98 = .bool false := q98
                    refine ⟨by simp [Rg.wants, q98], ?_⟩
                    exact Rg.run_ok (v := .bool false) (by simp [execOp, Rg.ev, go_sem, q101, q108]) ⟨rfl, hR, Ext.rfl' _⟩
                  refine ⟨Rg.at_run [98, 109] rfl ?_, ?_⟩
                  · intro ρ W hR ⟨q98, q109, _⟩
                    replace q98 : ρ 98 = .bool false := q98
                    replace q109 : ρ 109 = .bool false := q109
                    refine ⟨rfl, ?_⟩
                    exact Rg.run_ok (v := .bool false) (by simp [execOp, Rg.ev, go_sem, q98, q109]) ⟨rfl, hR, Ext.rfl' _⟩
                  trivial
                case en =>
                  intro tm W hR hsz hk
                  rw [Rg.fin_eq (ds := [68, 69, 70, 71, 72, 73, 74, 75, 76, 77, 78, 79, 80, 81, 82, 83, 84, 85, 86, 87, 88, 89, 90, 91, 92, 93, 94, 95, 96, 97, 98, 99, 100, 101, 102, 103, 104, 105, 106, 107, 108, 109, 110]) rfl rfl rfl hsz hk]
                  have k68 : tm.getD 68 undef = .agg #[.int .u64 s.now, .int .u64 s.count, .slice A0 s.links.length c0, .slice B0 s.sess.length d0] := hk 68
                  have k69 : tm.getD 69 undef = .agg #[.int .u64 s.now, .int .u64 s.count, .slice A1 s.links.length c1, .slice A2 s.sess.length c2] := hk 69
                  have k70 : tm.getD 70 undef = .bool true := hk 70
                  have k71 : tm.getD 71 undef = .bool false := hk 71
                  have k72 : tm.getD 72 undef = .bool false := hk 72
                  have k73 : tm.getD 73 undef = .bool false := hk 73
                  have k74 : tm.getD 74 undef = .pointer (some ⟨g10, 0, none⟩) := hk 74
                  have k75 : tm.getD 75 undef = .int .i64 10 := hk 75
                  have k76 : tm.getD 76 undef = .bool false := hk 76
                  have k77 : tm.getD 77 undef = .bool false := hk 77
                  have k78 : tm.getD 78 undef = .bool false := hk 78
                  have k79 : tm.getD 79 undef = .bool false := hk 79
                  have k80 : tm.getD 80 undef = .bool false := hk 80
                  have k81 : tm.getD 81 undef = .bool false := hk 81
                  have k82 : tm.getD 82 undef = undef := hk 82
                  have k83 : tm.getD 83 undef = undef := hk 83
                  have k84 : tm.getD 84 undef = undef := hk 84
                  have k85 : tm.getD 85 undef = undef := hk 85
                  have k86 : tm.getD 86 undef = undef := hk 86
                  have k87 : tm.getD 87 undef = undef := hk 87
                  have k88 : tm.getD 88 undef = undef := hk 88
                  have k89 : tm.getD 89 undef = undef := hk 89
                  have k90 : tm.getD 90 undef = undef := hk 90
                  have k91 : tm.getD 91 undef = undef := hk 91
                  have k92 : tm.getD 92 undef = undef := hk 92
                  have k93 : tm.getD 93 undef = undef := hk 93
                  have k94 : tm.getD 94 undef = undef := hk 94
                  have k95 : tm.getD 95 undef = undef := hk 95
                  have k96 : tm.getD 96 undef = .bool false := hk 96
                  have k97 : tm.getD 97 undef = .bool false := hk 97
                  have k98 : tm.getD 98 undef = .bool false := hk 98
                  have k99 : tm.getD 99 undef = .bool false := hk 99
                  have k100 : tm.getD 100 undef = .bool true := hk 100
                  have k101 : tm.getD 101 undef = .bool true := hk 101
                  have k102 : tm.getD 102 undef = .pointer (some ⟨g10, 0, none⟩) := hk 102
                  have k103 : tm.getD 103 undef = .int .i64 10 := hk 103
                  have k104 : tm.getD 104 undef = .bool false := hk 104
                  have k105 : tm.getD 105 undef = .bool false := hk 105
                  have k106 : tm.getD 106 undef = .int .i64 k := hk 106
                  have k107 : tm.getD 107 undef = .bool false := hk 107
                  have k108 : tm.getD 108 undef = .bool false := hk 108
                  have k109 : tm.getD 109 undef = .bool false := hk 109
                  have k110 : tm.getD 110 undef = .bool false := hk 110
                  clear hk hsz
                  simp only [Rg.putAll, List.setIfInBounds_toArray, List.set_cons_zero, List.set_cons_succ, k68, k69, k70, k71, k72, k73, k74, k75, k76, k77, k78, k79, k80, k81, k82, k83, k84, k85, k86, k87, k88, k89, k90, k91, k92, k93, k94, k95, k96, k97, k98, k99, k100, k101, k102, k103, k104, k105, k106, k107, k108, k109, k110]
                  clear k68
                  clear k69
                  clear k70
                  clear k71
                  clear k72
                  clear k73
                  clear k74
                  clear k75
                  clear k76
                  clear k77
                  clear k78
                  clear k79
                  clear k80
                  clear k81
                  clear k82
                  clear k83
                  clear k84
                  clear k85
                  clear k86
                  clear k87
                  clear k88
                  clear k89
                  clear k90
                  clear k91
                  clear k92
                  clear k93
                  clear k94
                  clear k95
                  clear k96
                  clear k97
                  clear k98
                  clear k99
                  clear k100
                  clear k101
                  clear k102
                  clear k103
                  clear k104
                  clear k105
                  clear k106
                  clear k107
                  clear k108
                  clear k109
                  clear k110
                  refine Rg.nil_list ?_
                  go_wp2_with fail
                  go_roundw
                  case rel => exact ⟨k + 1, by omega, by go_num, (((hx6.trans' hxc).trans' hxd).trans' hR)⟩
                  case measure => simp [intOf]; omega
        · go_wp2_with fail
          go_ret
          exact ⟨rfl, hx1.trans' hx6⟩
end Go.Proofs.Ytggfemdgccgbpaa

/- The statement 'LinksFindSaid': whatever is handed in, the law answers true, and what was handed in is as it was. -/
namespace Go.Proofs.Ytggfemdgccgbpaa.linksFind
set_option linter.unusedVariables false
set_option linter.unusedSimpArgs false
set_option linter.unnecessarySimpa false
set_option maxRecDepth 100000
open Go.ChangeShapes Go.WideShapes Go.ChangeAt Go.RowKit
open Go.ChangeMaps (open_string shut_string)

set_option maxRecDepth 100000 in
set_option maxHeartbeats 2000000 in
theorem lifted (os : Os) (started : os.Started) (H : Type) (enc : TypeId × Value → H) :
    ReturnsInHanded {} Try.checked os 10 .any (Rows.linksFindSpec.pre6 enc Try.prog Try.f10 Rows.linksFindRow.domain false) (Rows.linksFindSpec.post enc Try.prog Try.f10 false true false false) := by
  refine returnsInHanded_of_change (C := Try.checked) own started (by kernel_rfl) Try.func10
    (ChangeSpec.witness6 (enc := enc) (C := Try.checked) false ⟨#[], #[.slice none 0 0, .string ByteArray.empty], []⟩ 8 (by kernel_rfl) (by kernel_rfl) (by kernel_rfl) (by kernel_rfl)) ?_
  intro W base args ds gs before hval0 hW hcnd _
  have hval : ∀ (j : Nat) t v, Try.f10.params[j]? = some t → args[j]? = some v → Value.okWide Try.prog W .any base t v := hval0
  have hW' := hW
  obtain ⟨p, q, hA0, hV, rfl, hfz, hnd⟩ := hW
  have hA : DataW.TrodAll enc Try.prog W 0 (fun _ => true) true Try.f10.params.toList args.toList ds p := hA0
  rw [Try.params10] at hA hval
  obtain ⟨v0, vs0, d0, ds0, p0, q0, hargs, rfl, rfl, h0, r0⟩ := trodAll_cons hA
  obtain ⟨v1, vs1, d1, ds1, p1, q1, rfl, rfl, rfl, h1, r1⟩ := trodAll_cons r0
  obtain ⟨rfl, rfl, rfl⟩ := trodAll_nil r1
  obtain rfl : args = #[v0, v1] := by cases args; simp_all
  obtain ⟨rfl, rfl⟩ := trodVars_none hV
  obtain ⟨a0, len0, cap0, rfl⟩ := okWide_slice Try.underlying22 (hval 0 22 v0 rfl rfl)
  have k0 := h0
  have lt0 : ∀ x ∈ p0, x.block < W.heap.size := by obtain ⟨m, hm⟩ := k0; exact DataW.trod_lt m _ _ _ hm
  obtain ⟨b0, hb0⟩ : ∃ b, Bs W (.slice a0 len0 cap0) b := by
    obtain ⟨fuel, hf⟩ := h0
    rcases open_ints Try.underlying22 Try.underlying5 (by kernel_rfl) hf with ⟨hcs, _⟩ | ⟨x, l, c, zs, hcs, _, hl, hm, hz, _, hcell, hwz⟩
    · simp [Value.cells] at hcs
      obtain ⟨rfl, rfl, rfl⟩ := hcs
      exact ⟨[], bs_none⟩
    · simp [Value.cells] at hcs
      obtain ⟨rfl, rfl, rfl⟩ := hcs
      exact bs_of_ints hl hm (by simpa using hz) hcell hwz
  obtain ⟨a1, rfl, rfl, rfl, w1⟩ := open_string Try.underlying9 (hval 1 9 v1 rfl rfl) h1
  clear hA0 hval0
  refine (linksFind_walk _ b0 a1 W hb0 w1).mono fun e W' ⟨he, bel⟩ => ?_
  subst he
  exact ⟨_, rfl, _, _, _, [], _, [], hW', trodAll_mk1 (shut_bool Try.underlying4 _), (trodAll_cons_mk (Below.trod laidOut (by kernel_rfl) (of_decide_eq_true (by kernel_rfl)) k0 bel lt0) (trodAll_cons_mk (shut_string Try.underlying9 w1) trodAll_mk0)), rfl, bel.frame _, fun h => by cases h⟩

theorem over : Rows.linksFindRow.holds Try.pinned (OpenSpec.ofChange Rows.linksFindSpec) :=
  OpenClaim.holds_of_wide 10 Try.f10 rfl rfl rfl rfl rfl rfl rfl ⟨rfl, rfl, rfl, rfl, rfl⟩ rfl rfl rfl rfl rfl (by kernel_rfl) Try.func10 (by kernel_rfl)
    (of_decide_eq_true (by kernel_rfl)) (by unfold Func.isWrapper; first | (rw [if_pos (by decide +kernel)]; kernel_rfl) | (rw [if_neg (by decide +kernel)]; exact ⟨rfl, rfl⟩))
    (fun os started H enc _ => lifted os started H enc)

/-- THE STATEMENT -/
theorem proved : Rows.LinksFindSaid := over
#print axioms proved
end Go.Proofs.Ytggfemdgccgbpaa.linksFind

