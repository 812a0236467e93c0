/- A part of the proof of 'StateBytes'. -/
import Derived.Test.YtamimdlaclglkaaGreatB3
import Derived.Test.YtamimdlaclglkaaGreatB2
namespace Go.Proofs.YtamimdlaclglkaaGreat
set_option linter.unusedVariables false
set_option linter.unusedSimpArgs false
set_option linter.unnecessarySimpa false
set_option maxRecDepth 100000
open Go.RowKit
set_option maxHeartbeats 400000 in
theorem rput_b (x : Value) (l : Bytes) (v n : Int) (w : World) (hv : 0 ≤ v ∧ v ≤ 18446744073709551615) (hn : -9223372036854775808 ≤ n ∧ n ≤ 9223372036854775807) (hl : l.length ≤ 140737488355000) (hr : Bs w x l) :
    Calls Tryz.prog 51 #[x, .int .u64 v, .int .i64 n] w fun e w' => RetNw w w' e (oput l v n) := by
  obtain ⟨i0, hi, hz0, hz1, hz2⟩ := info_parts ti5
  obtain ⟨A, c, rfl, h1, h2, h3⟩ := id hr
  by_cases hb : n < 0 ∨ 8 < n
  · have e1 : oput l v n = l := if_pos hb
    rw [e1]
    clear e1
    go_enter Tryz.func51, Tryz.ntmps51
    go_wp2_with (at_builtin; refine wpList_app w _ rfl (.tmp 9) (.tmp 10) rfl _ [] rfl (nw_lit w _ (Ext.rfl' _) _ rfl) ((Ext.rfl' _).alloc' _) _ l rfl (hr.ext ((Ext.rfl' _).alloc' _)) (by simp; omega) ?_; intro m Am cm w1 hm hy hx _)
    all_goals go_ret
    all_goals exact ⟨m, Am, cm, hm, rfl, hy, hx⟩
  · have hb1 : ¬ n < 0 := fun h => hb (.inl h)
    have hb2 : ¬ 8 < n := fun h => hb (.inr h)
    clear hb
    go_enter Tryz.func51, Tryz.ntmps51
    go_wp2_with (at_builtin; refine wpList_app w _ rfl (.tmp 9) (.tmp 10) rfl _ [] rfl (nw_lit w _ (Ext.rfl' _) _ rfl) ((Ext.rfl' _).alloc' _) _ l rfl (hr.ext ((Ext.rfl' _).alloc' _)) (by simp; omega) ?_; intro m Am cm w1 hm hy hx _)
    obtain ⟨N, rfl⟩ := Int.eq_ofNat_of_zero_le (show (0 : Int) ≤ n by omega)
    go_loopw [7, 8] (fun o i wr => ∃ (k : Nat) (pre : Bytes), k ≤ N ∧ i = .int .i64 (N - k) ∧ Hid (pre ++ be k v.toNat = be N v.toNat) ∧ pre.length ≤ 8 ∧ wr.ownsRow w.heap.size 5 1 o (l ++ pre).length (bv (l ++ pre)) ∧ Ext w wr) (fun _ i _ => (N - intOf i).toNat)
    case atStart => exact ⟨N, [], Nat.le_refl _, by simp, hide rfl, by simp, by have := hm.out; simp only [List.nil_append] at this; subst this; simpa [Nw] using hy, hx⟩
    case round =>
      obtain ⟨k, pre, hk, rfl, hpre, hp8, ho, hx1⟩ := hrel
      rcases k with _ | k
      · go_wp2
        go_ret
        have e2 : oput l v N = l ++ pre := by
          have := hpre.out
          simp [be] at this
          rw [oput, if_neg (by omega), this]; simp
        exact RetNw.mk (by rw [e2]; exact ho) hx1
      · have s1 : (l ++ pre).length + 1 ≤ maxLen := by simp [maxLen]; omega
        have s2 : ((l ++ pre).length + 1) * 1 ≤ 140737488355328 := by simp; omega
        have s3 : w.heap.size ≤ wr.heap.size + 1 := Nat.le_trans hx1.size (Nat.le_succ _)
        have e1 := hide (be_step k v hv)
        obtain ⟨i, hi'⟩ : ∃ i : Int, (N : Int) - ((k + 1 : Nat) : Int) = i := ⟨_, rfl⟩
        rw [hi']
        have hsh : (N : Int) - 1 - i = k := by omega
        go_wp2_with (at_builtin; refine wpList_append_any _ rfl (.tmp 24) (.tmp 33) 22 rfl w.heap.size 5 i0 (.int .u8 0) 1 1 Tryz.underlying22 hi hz0 hz1 hz2 rfl (by decide) u7 _ _ rfl (ho.alloc _) _ _ 1 1 _ rfl (Reads.one _ _ _) (one_int _ _) s1 s2 (by simpa using s3) ?_; intro v' w' hown hg _)
        go_roundw
        case rel =>
          obtain ⟨e1, e2⟩ := e1.out
          have e3 := hpre.out
          rw [e1] at e3
          have e4 := congrArg List.length e3
          simp [be_length] at e4
          refine ⟨k, pre ++ [UInt8.ofNat (v.toNat / 2 ^ (8 * k))], by omega, by go_num, hide (by rw [← e3]; simp), by simp; omega, ?_, (hx1.alloc' _).grown' hg (fun j hj => (ho.lt j hj).1)⟩
          rw [e2] at hown
          simpa [bv, Nat.add_assoc] using hown
        case measure => simp [intOf]; omega
set_option maxHeartbeats 400000 in
theorem rtake_b (x : Value) (l : Bytes) (n : Int) (w : World) (hn : -9223372036854775808 ≤ n ∧ n ≤ 9223372036854775807) (hl : l.length ≤ 140737488355328) (hr : Bs w x l) :
    Calls Tryz.prog 85 #[x, .int .i64 n] w fun e w' => e = .returned (.tuple #[.int .u64 (otake l n).1, .int .i64 (otake l n).2]) ∧ w = w' := by
  obtain ⟨A, c, rfl, h1, h2, h3⟩ := hr
  by_cases hb : n < 0 ∨ 8 < n
  · have e1 : otake l n = (0, 1) := if_pos hb
    rw [e1]
    clear e1
    go_enter Tryz.func85, Tryz.ntmps85
    go_wp2
    all_goals go_ret2
    all_goals exact ⟨rfl, rfl⟩
  · have hb1 : ¬ n < 0 := fun h => hb (.inl h)
    have hb2 : ¬ 8 < n := fun h => hb (.inr h)
    by_cases hs : (l.length : Int) < n
    · have e1 : otake l n = (0, 3) := by rw [otake, if_neg hb, if_pos hs]
      rw [e1]
      clear e1 hb
      go_enter Tryz.func85, Tryz.ntmps85
      go_wp2
      all_goals go_ret2
      all_goals exact ⟨rfl, rfl⟩
    · obtain ⟨N, rfl⟩ := Int.eq_ofNat_of_zero_le (show (0 : Int) ≤ n by omega)
      have e1 : otake l N = (((val (l.take N) : Nat) : Int), (0 : Int)) := by rw [otake, if_neg hb, if_neg hs]; rfl
      rw [e1]
      clear e1 hb
      go_enter Tryz.func85, Tryz.ntmps85
      go_wp2
      go_loop [6, 7] (fun v i => ∃ k : Nat, k ≤ N ∧ i = .int .i64 k ∧ v = .int .u64 (val (l.take k))) (fun _ i => (N - intOf i).toNat)
      case atStart => exact ⟨0, Nat.zero_le _, rfl, rfl⟩
      case round =>
        obtain ⟨k, hk, rfl, rfl⟩ := hrel
        by_cases hlt : k < N
        · obtain ⟨ad, b, rfl, hbk, hu, hcell, hb⟩ := h3.byte (show k < l.length by omega)
          have hv := val_take_lt l k (by omega)
          have e1 := hide (take_step l k b hu hv)
          go_wp2
          refine ⟨⟨k + 1, by omega, by go_num, ?_⟩, by simp [intOf]; omega⟩
          rw [e1.out]
        · go_wp2
          go_ret2
          obtain rfl : k = N := by omega
          exact ⟨rfl, rfl⟩
set_option maxHeartbeats 400000 in
theorem rputBytes_b (x y : Value) (b s : Bytes) (w : World) (hl : b.length + s.length ≤ 140737488350000) (hx : Bs w x b) (hy : Bs w y s) :
    Calls Tryz.prog 52 #[x, y] w fun e w' => RetNw w w' e (oputBytes b s) := by
  obtain ⟨A, c, rfl, h1, h2, h3⟩ := id hy
  have E1 : Hid (oput b s.length 4 = b ++ be 4 s.length) := by simp [oput, Hid]
  go_enter Tryz.func52, Tryz.ntmps52
  go_wp2_with fail
  refine (rput_b x b _ 4 w (by omega) (by omega) (by omega) hx).mono ?_
  rintro e w1 ⟨m, Am, cm, hm, rfl, hz, hx1⟩
  have hm' := hm.out.trans E1.out
  have hm2 := congrArg List.length hm'
  simp only [List.length_append, be_length] at hm2
  have HM := hide hm'
  have hlm : m.length + s.length ≤ 140737488355328 := by omega
  clear hm' hm2
  go_wp2_with (at_builtin; refine wpList_app w _ rfl (.tmp 9) (.tmp 10) rfl _ m rfl hz hx1 _ s rfl (hy.ext hx1) hlm ?_; intro k A' c' w2 hk hz2 hx2 _)
  go_ret
  exact ⟨k, A', c', hide (by rw [hk.out, HM.out]; simp [oputBytes]), rfl, hz2, hx2⟩
theorem rtake_ok (x : Value) (b : Bytes) (n : Nat) (w : World) (hn : n ≤ 8) (hl : b.length ≤ 140737488355328) (hr : Bs w x b) (h : n ≤ b.length) :
    Calls Tryz.prog 85 #[x, .int .i64 n] w fun e w' => ∃ k : Nat, Hid (k = val (b.take n)) ∧ k < 256 ^ n ∧ e = .returned (.tuple #[.int .u64 k, .int .i64 0]) ∧ w = w' := by
  refine (rtake_b x b n w (by omega) hl hr).mono ?_
  rintro e w' ⟨rfl, rfl⟩
  rcases otake_cases b n hn with ⟨h1, _⟩ | ⟨_, e1⟩
  · omega
  · have hlt := val_lt (b.take n)
    rw [List.length_take, Nat.min_eq_left h] at hlt
    rw [e1]
    exact ⟨_, hide rfl, hlt, rfl, rfl⟩
theorem rtake_short (x : Value) (b : Bytes) (n : Nat) (w : World) (hn : n ≤ 8) (hl : b.length ≤ 140737488355328) (hr : Bs w x b) (h : b.length < n) :
    Calls Tryz.prog 85 #[x, .int .i64 n] w fun e w' => e = .returned (.tuple #[.int .u64 0, .int .i64 3]) ∧ w = w' := by
  refine (rtake_b x b n w (by omega) hl hr).mono ?_
  rintro e w' ⟨rfl, rfl⟩
  rcases otake_cases b n hn with ⟨_, e1⟩ | ⟨h1, _⟩
  · rw [e1]; exact ⟨rfl, rfl⟩
  · omega
set_option maxHeartbeats 400000 in
theorem rtakeBytes_b (x : Value) (b : Bytes) (w : World) (hl : b.length ≤ 140737488350000) (hx : Bs w x b) :
    Calls Tryz.prog 106 #[x] w fun e w' => RetRead w w' e (otakeBytes b) := by
  obtain ⟨A, c, rfl, h1, h2, h3⟩ := id hx
  rcases Nat.lt_or_ge b.length 4 with hs | hs
  · have E : Hid (otakeBytes b = ([], 0, 3)) := if_pos (.inl hs)
    go_enter Tryz.func106, Tryz.ntmps106
    go_wp2_with (go_at_call 85; refine (rtake_short _ b 4 _ (by omega) (by omega) hx hs).mono ?_; rintro e w1 ⟨rfl, rfl⟩)
    all_goals go_ret3
    all_goals rw [E.out]
    all_goals exact RetRead.none_ (Below.refl _ _) 3
  · have HE : Hid (otakeBytes b = if b.length - 4 < val (b.take 4) then ([], 0, 3) else ((b.drop 4).take (val (b.take 4)), ((4 + val (b.take 4) : Nat) : Int), 0)) := by
      unfold Hid otakeBytes
      by_cases hc : b.length - 4 < val (b.take 4)
      · rw [if_pos (.inr hc), if_pos hc]
      · rw [if_neg (by omega), if_neg hc]
    have HT := hide (rtake_ok _ b 4 w (by omega) (by omega) hx hs)
    go_enter Tryz.func106, Tryz.ntmps106
    go_wp2_with fail
    refine HT.out.mono ?_
    rintro e w1 ⟨k, hk, hk3, rfl, rfl⟩
    have HE' : Hid (otakeBytes b = if b.length - 4 < k then ([], 0, 3) else ((b.drop 4).take k, ((4 + k : Nat) : Int), 0)) := by rw [hk.out]; exact HE
    clear HE
    by_cases hk2 : ((b.length : Int) - 4) < k
    · go_wp2
      all_goals go_ret3
      all_goals rw [HE'.out, if_pos (by omega)]
      all_goals exact RetRead.none_ (Below.refl _ _) 3
    · have hcut : Bs w (.slice (cutA 1 A c 4) (4 + k - 4) (c - 4)) ((b.drop 4).take k) := by rw [Nat.add_sub_cancel_left]; exact hx.cut (l := 4) (k := k) (by omega)
      have hlen : ((b.drop 4).take k).length ≤ 140737488350000 := by simp; omega
      go_wp2_with (at_builtin; refine wpList_app w _ rfl (.tmp 22) (.tmp 27) rfl _ [] rfl (nw_lit w _ (Ext.rfl' _) _ rfl) ((Ext.rfl' _).alloc' _) _ ((b.drop 4).take k) rfl (hcut.ext ((Ext.rfl' _).alloc' _)) (by simp only [List.length_nil]; omega) ?_; intro m Am cm w1 hm hz hx2 _)
      go_ret3
      rw [HE'.out, if_neg (by omega)]
      exact ⟨m, Am, cm, _, _, hide (by rw [hm.out]; simp), rfl, hz, hx2⟩
theorem own_ext {w w' : World} {base n : Nat} {e : TypeId} {size : Nat} {v : Value} {xs : List Value} (h : w.ownsRow base e size v n xs) (hx : Ext w w') : w'.ownsRow base e size v n xs := by
  refine ⟨h.1, ?_⟩
  rcases h.2 with h2 | ⟨g, cap, cur, hv, hg, hh, r⟩
  · exact .inl h2
  · exact .inr ⟨g, cap, cur, hv, hg, (Blk.ext (t := e) hh hx), r⟩
end Go.Proofs.YtamimdlaclglkaaGreat
namespace Go.Proofs.YtamimdlaclglkaaGreat
set_option linter.unusedVariables false
set_option linter.unusedSimpArgs false
set_option linter.unnecessarySimpa false
set_option maxRecDepth 100000
open Go.RowKit
/-- none yet, and no room -/
def App0 (w0 W : World) (v : Value) : Prop := ∃ A, v = .slice A 0 0 ∧ ∀ a, A = some a → w0.heap.size ≤ a.block ∧ a.block < W.heap.size
theorem App0.size {w0 W W' : World} {v : Value} (h : App0 w0 W v) (hs : W.heap.size ≤ W'.heap.size) : App0 w0 W' v := by
  obtain ⟨A, rfl, h2⟩ := h
  exact ⟨A, rfl, fun a ha => ⟨(h2 a ha).1, Nat.lt_of_lt_of_le (h2 a ha).2 hs⟩⟩
theorem App0.ext {w0 W W' : World} {v : Value} (h : App0 w0 W v) (hx : Ext W W') : App0 w0 W' v := h.size hx.size
theorem App0.lit {w0 w : World} (hx : Ext w0 w) (g : Nat) (hg : w.heap.size = g) (o : Obj) : App0 w0 (w.alloc o) (.slice (some ⟨g, 0, none⟩) 0 0) := by
  subst hg
  refine ⟨_, rfl, fun a ha => ?_⟩
  obtain rfl := Option.some.inj ha
  exact ⟨hx.size, by simp⟩
theorem App0.nil (w0 W : World) : App0 w0 W (.slice none 0 0) := ⟨none, rfl, fun a ha => by cases ha⟩
def App (w0 W : World) (v : Value) (l : Bytes) : Prop := (l = [] ∧ App0 w0 W v) ∨ Nw w0 W v l
theorem App.bs {w0 W : World} {v : Value} {l : Bytes} (h : App w0 W v l) : Bs W v l := by
  rcases h with ⟨rfl, A, rfl, _⟩ | h
  · exact Bs.mk' rfl (Nat.le_refl _) (by simp [maxLen]) ⟨rfl, fun h => absurd h (by omega)⟩
  · exact h.bs
theorem App.ext {w0 W W' : World} {v : Value} {l : Bytes} (h : App w0 W v l) (hx : Ext W W') : App w0 W' v l := by
  rcases h with ⟨h, h2⟩ | h
  · exact .inl ⟨h, h2.ext hx⟩
  · exact .inr (own_ext h hx)
theorem App.trans {w0 w1 W : World} {v : Value} {l : Bytes} (h : App w1 W v l) (hx : Ext w0 w1) : App w0 W v l := by
  rcases h with ⟨h, A, h2, h3⟩ | h
  · exact .inl ⟨h, A, h2, fun a ha => ⟨Nat.le_trans hx.size (h3 a ha).1, (h3 a ha).2⟩⟩
  · exact .inr (h.trans hx)
theorem App0.app {w0 W : World} {v : Value} (h : App0 w0 W v) : App w0 W v [] := .inl ⟨rfl, h⟩
theorem App.form {w0 W : World} {v : Value} {l : Bytes} (h : App w0 W v l) : ∃ A c, v = .slice A l.length c := by
  obtain ⟨A, c, rfl, _⟩ := h.bs
  exact ⟨A, c, rfl⟩
theorem App.off {w0 W : World} {v : Value} {l : Bytes} (h : App w0 W v l) {S : List Nat} (hs : ∀ k, k ∈ S → k < w0.heap.size) : Off v S := by
  rcases h with ⟨rfl, A, rfl, _⟩ | h
  · rintro ad n c he h0
    simp only [Value.slice.injEq] at he
    omega
  · exact h.off hs
end Go.Proofs.YtamimdlaclglkaaGreat
namespace Go.Proofs.YtamimdlaclglkaaGreat
set_option linter.unusedVariables false
set_option linter.unusedSimpArgs false
set_option linter.unnecessarySimpa false
set_option maxRecDepth 100000
open Go.RowKit
/-- an element type as the program knows it -/
structure Elt {α : Type} (T : TypeId) (E : Enc α) (z : Value) (bytes : Nat) : Prop where
  info : (Tryz.prog.info? T).map (fun i => (i.zero, i.size, i.bytes)) = some (some z, E.size, bytes)
  zs : z.cells.size = E.size
  pos : 0 < E.size
/-- a slice of new memory that reads as l; its elements lie neither in its own block nor in one of X -/
def Own {α : Type} (T : TypeId) (E : Enc α) (w0 w : World) (X : Avoid) (v : Value) (l : List α) : Prop :=
  ∃ css, w.ownsRow w0.heap.size T E.size v l.length css.flatten ∧ Enc.Each E w (fun k => X k ∨ v.ownBlock = some k) css l ∧ ∀ k, v.ownBlock = some k → ¬ X k
section
variable {α : Type} {T : TypeId} {E : Enc α} {w0 w w' : World} {X Y : Avoid} {v : Value} {l m : List α}
theorem Own.form (h : Own T E w0 w X v l) : ∃ A c, v = .slice A l.length c ∧ l.length ≤ c ∧ c ≤ maxLen := by
  obtain ⟨css, h1, _⟩ := h
  exact own_slice h1
theorem Own.lt (h : Own T E w0 w X v l) : ∀ k, v.ownBlock = some k → w0.heap.size ≤ k ∧ k < w.heap.size := by
  obtain ⟨css, h1, _⟩ := h
  exact h1.lt
theorem Own.sl (h : Own T E w0 w X v l) : Enc.Sl E w X v l := by
  obtain ⟨css, h1, h2, h3⟩ := h
  obtain ⟨A, c, rfl, h4, h5⟩ := own_slice h1
  refine ⟨A, c, css, rfl, h4, h5, Reads.of_own h1, ?_, h2.mono fun k _ hk => .inl hk⟩
  rintro ad rfl _
  exact h3 _ rfl
theorem Own.nil (T : TypeId) (E : Enc α) (w0 w : World) (X : Avoid) : Own T E w0 w X (.slice none 0 0) [] :=
  ⟨[], by simpa using World.ownsRow_nil w w0.heap.size T E.size, Enc.Each.nil E w _, fun _ h => by cases h⟩
theorem Own.lit0 (T : TypeId) (E : Enc α) (hx : Ext w0 w) (g : Nat) (hg : w.heap.size = g) (hX : ¬ X g) : Own T E w0 (w.alloc (.cells #[] T)) X (.slice (some ⟨g, 0, none⟩) 0 0) [] := by
  subst hg
  refine ⟨[], by simpa using World.ownsRow_lit (size := E.size) w #[] 0 hx.size (by decide) (by simp), Enc.Each.nil E _ _, fun k hk => ?_⟩
  obtain rfl := Option.some.inj hk
  exact hX
theorem Own.ext (h : Own T E w0 w X v l) (hx : Ext w w') : Own T E w0 w' X v l := by
  obtain ⟨css, h1, h2, h3⟩ := h
  exact ⟨css, own_ext h1 hx, h2.ext hx, h3⟩
theorem Own.trans (h : Own T E w w' X v l) (hx : Ext w0 w) : Own T E w0 w' X v l := by
  obtain ⟨css, h1, h2, h3⟩ := h
  exact ⟨css, own_base h1 hx.size, h2, h3⟩
theorem Own.mono (h : Own T E w0 w X v l) (hs : ∀ k, k < w.heap.size → Y k → X k) : Own T E w0 w Y v l := by
  obtain ⟨css, h1, h2, h3⟩ := h
  refine ⟨css, h1, h2.mono fun k hk hy => hy.elim (fun hy => .inl (hs k hk hy)) .inr, fun k hk hy => h3 k hk (hs k (h1.lt k hk).2 hy)⟩
theorem own_chg {S : List Nat} {base n : Nat} {e : TypeId} {size : Nat} {xs : List Value} (h : w.ownsRow base e size v n xs) (hc : Chg S w w') (hn : ∀ k, v.ownBlock = some k → k ∉ S) : w'.ownsRow base e size v n xs := by
  refine ⟨h.1, ?_⟩
  rcases h.2 with h2 | ⟨g, cap, cur, hv, hg, hh, r⟩
  · exact .inl h2
  · refine .inr ⟨g, cap, cur, hv, hg, ?_, r⟩
    exact Blk.chg (t := e) hh hc (hn g (by rw [hv]; rfl))
theorem Own.chg {S : List Nat} (h : Own T E w0 w X v l) (hc : Chg S w w') (hs : ∀ k, k ∈ S → k < w.heap.size → X k) : Own T E w0 w' X v l := by
  obtain ⟨css, h1, h2, h3⟩ := h
  refine ⟨css, own_chg h1 hc fun k hk hm => h3 k hk (hs k hm (h1.lt k hk).2), h2.chg hc fun k hk hl => .inl (hs k hk hl), h3⟩
theorem _root_.Go.World.grownBy.chg' {row : Option Nat} (h : w.grownBy w' row) : Chg row.toList w w' :=
  ⟨h.os, h.tape, h.output, h.size, fun k hk hn => h.block k hk (fun e => hn (by rw [← e]; simp))⟩
/-- append onto such a slice of a slice whose elements do not lie in it -/
theorem run_own {z : Value} {bytes : Nat} (ei : Elt T E z bytes) (t ty : TypeId) (ht : Tryz.prog.underlying t = some (.slice T)) (h : Own T E w0 w X v l) (hx0 : Ext w0 w)
    {y : Value} (hy : Enc.Sl E w (fun k => X k ∨ v.ownBlock = some k) y m) (hX : ¬ X w.heap.size) (hlen : (l.length + m.length) * bytes ≤ 140737488355328) (hl2 : l.length + m.length ≤ 140737488355328) :
    ∃ v' w', (Builtin.append_ #[t, t] ty #[v, y]).run Tryz.prog w = .ok v' w' ∧ Own T E w0 w' X v' (l ++ m) ∧ Ext w0 w' ∧ Chg v.ownBlock.toList w w' ∧ (v'.ownBlock = v.ownBlock ∨ v'.ownBlock = some w.heap.size) := by
  obtain ⟨css, h1, h2, h3⟩ := h
  obtain ⟨A, c, cs2, rfl, k1, k2, k3, k4, k5⟩ := hy
  obtain ⟨i0, hi, hz0, hz1, hz2⟩ := info_parts ei.info
  obtain ⟨v', w', hrun, hown, hg, hb⟩ := run_append_any (P := Tryz.prog) w w0.heap.size t ty T i0 z E.size bytes ht hi hz0 hz1 hz2 ei.zs ei.pos v l.length css.flatten h1 w.heap.size A m.length c cs2.flatten k3 k5.one (by simp [maxLen]; omega) hlen hx0.size
  have hc := hg.chg'
  refine ⟨v', w', hrun, ⟨css ++ cs2, by rw [List.length_append, List.flatten_append]; exact hown, ?_, ?_⟩, hx0.then_ hc (fun i hi => by simp at hi; exact (h1.lt i hi).1), hc, hb⟩
  · have j1 := h2.mono (Y := fun k => (X k ∨ v'.ownBlock = some k) ∨ v.ownBlock = some k) fun k hk hy => by
      rcases hy with (hy | hy) | hy
      · exact .inl hy
      · rcases hb with e | e
        · exact .inr (e.symm.trans hy)
        · rw [e] at hy; have := Option.some.inj hy; omega
      · exact .inr hy
    have j2 := k5.mono (Y := fun k => (X k ∨ v'.ownBlock = some k) ∨ v.ownBlock = some k) fun k hk hy => by
      rcases hy with (hy | hy) | hy
      · exact .inl hy
      · rcases hb with e | e
        · exact .inr (e.symm.trans hy)
        · rw [e] at hy; have := Option.some.inj hy; omega
      · exact .inr hy
    have j3 := (j1.app j2).chg hc fun k hk _ => .inr (by simpa using hk)
    exact j3.mono fun k _ hk => .inl hk
  · intro k hk hx
    rcases hb with e | e
    · exact h3 k (e.symm.trans hk) hx
    · rw [e] at hk; have := Option.some.inj hk; subst this; exact hX hx
/-- one element in a block of its own -/
theorem Sl.one (T : TypeId) {cs : List Value} {a : α} (h : E.rep w X cs a) (g : Nat) (hg : w.heap.size = g) (hX : ¬ X g) : Enc.Sl E (w.alloc (.cells cs.toArray T)) X (.slice (some ⟨g, 0, none⟩) 1 1) [a] := by
  subst hg
  refine ⟨_, 1, [cs], rfl, Nat.le_refl _, by simp [maxLen], ?_, fun ad he _ => ?_, Enc.Each.single (E.ext h ((Ext.rfl' w).alloc' _))⟩
  · refine ⟨by simp [E.len h], fun _ => ⟨_, rfl, by simp, fun j u hu => ?_⟩⟩
    have hadd : (⟨w.heap.size, 0, none⟩ : Addr).add j = ⟨w.heap.size, j, none⟩ := by unfold Addr.add; split <;> simp_all
    rw [hadd, cell_of_row _ _ _ _ _ _ (heap_alloc_new w _)]
    simpa using hu
  · rw [← Option.some.inj he]
    exact hX
/-- append of one element, as the walk meets it -/
theorem wpList_own {ops : Array Oper} {rest : List Oper} {o : Oper} {a : Act} {Q : Exit → Act → World → Prop} {z : Value} {bytes : Nat} (ei : Elt T E z bytes) (t : TypeId) (ht : Tryz.prog.underlying t = some (.slice T)) (hgd : o.guard = none) (s x : Operand)
    (ho : o.op = .call { callee := .builtin .append, args := #[s, x], argTypes := #[t, t] }) (h : Own T E w0 w X v l) (hs : a.eval s = v) (hx0 : Ext w0 w)
    {y : Value} (hx : a.eval x = y) (hy : Enc.Sl E w (fun k => X k ∨ v.ownBlock = some k) y m) (hX : ¬ X w.heap.size) (hlen : (l.length + m.length) * bytes ≤ 140737488355328) (hl2 : l.length + m.length ≤ 140737488355328)
    (hK : ∀ (k : List α) (A : Option Addr) (c : Nat) (w' : World), Hid (k = l ++ m) → Own T E w0 w' X (.slice A k.length c) k → Ext w0 w' → Chg v.ownBlock.toList w w' → wpList Tryz.prog ops Q rest (a.put o.dst (.slice A k.length c)) w') : wpList Tryz.prog ops Q (o :: rest) a w :=
  wpList_plain hgd fun _ hK' => by
    obtain ⟨v', w', hrun, h2, h3, h4, h5⟩ := run_own ei t o.type ht h hx0 hy hX hlen hl2
    obtain ⟨A, c, rfl, _, _⟩ := h2.form
    unfold Oper.wp execOp
    simp only [ho, resolve, invoke, builtin, Sem.run_bind, Sem.run_pure, Result.andThen_ok, List.map_toArray, List.map_cons, List.map_nil, hs, hx, hrun]
    exact hK' _ _ (hK (l ++ m) A c w' (hide rfl) h2 h3 h4)
/-- what was there ahead does not lie in a new slice -/
theorem Sl.apart {x : Value} {k : List α} (hx : Enc.Sl E w0 noneAt x k) (hx0 : Ext w0 w) (h : ∀ i, v.ownBlock = some i → w0.heap.size ≤ i) (hX : ∀ i, X i → w0.heap.size ≤ i) : Enc.Sl E w (fun k => X k ∨ v.ownBlock = some k) x k :=
  (hx.mono fun i hi hm => by
    rcases hm with hm | hm
    · have := hX i hm; omega
    · have := h i hm; omega).ext hx0
/-- an element that was there ahead does not lie in new blocks -/
theorem _root_.Go.Proofs.YtamimdlaclglkaaGreat.Enc.apart {cs : List Value} {a : α} (h : E.rep w noneAt cs a) (hX : ∀ i, X i → w.heap.size ≤ i) : E.rep w X cs a :=
  E.mono h fun i hi hm => by have := hX i hm; omega
end
theorem slN {α : Type} {E : Enc α} {w : World} {X : Avoid} {v : Value} {l : List α} (h : Enc.Sl E w X v l) : Enc.Sl E w noneAt v l := h.mono fun _ _ h => h.elim
theorem Own.base {α : Type} {T : TypeId} {E : Enc α} {w0 w w' : World} {X : Avoid} {v : Value} {l : List α} (h : Own T E w w' X v l) (hs : w0.heap.size ≤ w.heap.size) : Own T E w0 w' X v l := by
  obtain ⟨css, h1, h2, h3⟩ := h
  exact ⟨css, own_base h1 hs, h2, h3⟩
/-- a world without its blocks from n on -/
def cutW (W : World) (n : Nat) : World := { W with heap := W.heap.extract 0 n }
theorem cutW_size {W : World} {n : Nat} (h : n ≤ W.heap.size) : (cutW W n).heap.size = n := by simp [cutW]; omega
theorem cutW_at {W : World} {n k : Nat} (h : n ≤ W.heap.size) (hk : k < n) : (cutW W n).heap[k]? = W.heap[k]? := by
  simp only [cutW]
  rw [Array.getElem?_extract_of_lt (by omega)]
  simp
theorem cutW_ext {W : World} {n : Nat} (h : n ≤ W.heap.size) : Ext (cutW W n) W :=
  ⟨rfl, rfl, rfl, by rw [cutW_size h]; exact h, fun k hk => by rw [cutW_size h] at hk; exact (cutW_at h hk).symm⟩
theorem Blk.cutW {W : World} {n g : Nat} {T : TypeId} {cs : Array Value} (hB : Blk W g T cs) (h : n ≤ W.heap.size) (hg : g < n) : Blk (cutW W n) g T cs := (cutW_at h hg).trans hB
theorem Ext.cutW {w W : World} {n : Nat} (hx : Ext w W) (h : n ≤ W.heap.size) (hw : w.heap.size ≤ n) : Ext w (cutW W n) :=
  ⟨hx.os, hx.tape, hx.output, by rw [cutW_size h]; exact hw, fun k hk => (cutW_at h (by omega)).trans (hx.block k hk)⟩
end Go.Proofs.YtamimdlaclglkaaGreat
