/- A part of the proof of 'StoreAll'. -/
import Derived.Test.YtlblgopfdadalaaS1
namespace Go.Proofs.Ytlblgopfdadalaa
set_option linter.unusedVariables false
set_option linter.unusedSimpArgs false
set_option linter.unnecessarySimpa false
set_option maxRecDepth 100000
open Go.RowKit
theorem nw_mk {w w' : World} {v : Value} {l : Bytes} {n : Nat} (hn : Hid (List.length l = n)) (h : w'.ownsRow w.heap.size 5 1 v (0 + n) ([] ++ bv l)) : Nw w w' v l := by
  have hn' := hn.out
  subst hn'
  simpa [Nw] using h
set_option maxHeartbeats 400000 in
theorem clone_b (x : Value) (l : Bytes) (w : World) (hl : l.length ≤ 140737488355328) (hx : Bs w x l) :
    Calls Try.prog 71 #[x] w fun e w' => RetNw w w' e l := by
  obtain ⟨A, c, rfl, _, _, hr⟩ := hx
  have q := fun (w : World) (a : Option Addr) (n c n' c' : Nat) => Lib.run_eql_slice_nil (P := Try.prog) w _ _ a n c n' c' Try.underlying24
  obtain ⟨i0, hi, hz0, hz1, hz2⟩ := info_parts ti5
  generalize hn : l.length = n at *
  have HN := hide hn
  clear hn
  rcases A with _ | ad
  · go_enter Try.func71, Try.ntmps71
    go_wp2
    go_ret
    have h0 : l = [] := by
      rcases Nat.eq_zero_or_pos n with h | h
      · have := HN.out; subst h; exact List.eq_nil_of_length_eq_zero this
      · obtain ⟨_, h, _⟩ := hr.2 h; cases h
    subst h0
    exact RetNw.mk (World.ownsRow_nil _ _ _ _) (Below.refl _ _)
  · go_enter Try.func71, Try.ntmps71
    go_wp2_with (at_builtin; refine wpList_append_any _ rfl _ _ 24 rfl w.heap.size 5 i0 (.int .u8 0) 1 1 Try.underlying24 hi hz0 hz1 hz2 rfl (by decide) _ 0 [] rfl (World.ownsRow_lit w #[] 0 (Nat.le_refl _) (by decide) rfl) w.heap.size (some ad) n c (bv l) rfl (hr.alloc (Nat.le_refl _) _) (bv_one l) (by simp [maxLen]; omega) (by omega) (by simp) ?_; intro v' w' hown hg _)
    go_ret
    exact RetNw.mk (nw_mk HN hown) (((Below.refl _ _).alloc (Nat.le_refl _) _).grown hg (by simp) (fun k hk => Nat.le_of_eq (Option.some.inj hk)))
/-- the n bytes of a number, the greatest first -/
def be : Nat → Nat → Bytes
  | 0, _ => []
  | n + 1, v => UInt8.ofNat (v / 2 ^ (8 * n)) :: be n v
def oput (l : Bytes) (v n : Int) : Bytes := if n < 0 ∨ 8 < n then l else l ++ be n.toNat v.toNat
theorem be_length (n v : Nat) : (be n v).length = n := by induction n with
  | zero => rfl
  | succ n ih => simp [be, ih]
theorem Reads.one (w : World) (e : TypeId) (X : Value) : Reads (w.alloc (.cells #[X] e)) (w.heap.size + 1) 1 (some ⟨w.heap.size, 0, none⟩) 1 [X] := by
  refine ⟨rfl, fun _ => ⟨_, rfl, by simp, fun j u hu => ?_⟩⟩
  rcases j with _ | j
  · simp at hu; subst hu
    rw [show (⟨w.heap.size, 0, none⟩ : Addr).add 0 = ⟨w.heap.size, 0, none⟩ from rfl, cell_of_row _ _ _ _ _ _ (heap_alloc_new w _)]; rfl
  · simp at hu
theorem one_int (k : IntKind) (n : Int) : ∀ u ∈ [Value.int k n], u.oneCell' = true := by
  intro u hu
  simp at hu; subst hu; rfl
theorem be_step (k : Nat) (v : Int) (hv : 0 ≤ v ∧ v ≤ 18446744073709551615) : be (k + 1) v.toNat = UInt8.ofNat (v.toNat / 2 ^ (8 * k)) :: be k v.toNat ∧
    Value.int .u8 (v / 2 ^ (8 * k) % 256) = .int .u8 ((UInt8.ofNat (v.toNat / 2 ^ (8 * k))).toNat : Nat) := by
  refine ⟨rfl, ?_⟩
  obtain ⟨n, rfl⟩ := Int.eq_ofNat_of_zero_le hv.1
  simp
set_option maxHeartbeats 400000 in
theorem put_b (x : Value) (l : Bytes) (v n : Int) (w : World) (hv : 0 ≤ v ∧ v ≤ 18446744073709551615) (hn : -9223372036854775808 ≤ n ∧ n ≤ 9223372036854775807) (hl : l.length ≤ 140737488355000) (hr : Bs w x l) :
    Calls Try.prog 38 #[x, .int .u64 v, .int .i64 n] w fun e w' => RetNw w w' e (oput l v n) := by
  obtain ⟨i0, hi, hz0, hz1, hz2⟩ := info_parts ti5
  obtain ⟨A, c, rfl, h1, h2, h3⟩ := id hr
  by_cases hb : n < 0 ∨ 8 < n
  · have e1 : oput l v n = l := if_pos hb
    rw [e1]
    clear e1
    go_enter Try.func38, Try.ntmps38
    go_wp2_with (go_at_call 71; refine (clone_b _ l w (by omega) hr).mono ?_; rintro e w1 ⟨m, Am, cm, hm, rfl, hy, hx⟩)
    all_goals go_ret
    all_goals exact ⟨m, Am, cm, hm, rfl, hy, hx⟩
  · have hb1 : ¬ n < 0 := fun h => hb (.inl h)
    have hb2 : ¬ 8 < n := fun h => hb (.inr h)
    clear hb
    go_enter Try.func38, Try.ntmps38
    go_wp2_with (go_at_call 71; refine (clone_b _ l w (by omega) hr).mono ?_; rintro e w1 ⟨m, Am, cm, hm, rfl, hy, hx⟩)
    obtain ⟨N, rfl⟩ := Int.eq_ofNat_of_zero_le (show (0 : Int) ≤ n by omega)
    go_loopw [7, 8] (fun o i wr => ∃ (k : Nat) (pre : Bytes), k ≤ N ∧ i = .int .i64 (k - 1) ∧ Hid (pre ++ be k v.toNat = be N v.toNat) ∧ pre.length ≤ 8 ∧ wr.ownsRow w.heap.size 5 1 o (l ++ pre).length (bv (l ++ pre)) ∧ Ext w wr) (fun _ i _ => (intOf i + 1).toNat)
    case atStart => exact ⟨N, [], Nat.le_refl _, rfl, hide rfl, by simp, by have := hm.out; subst this; simpa [Nw] using hy, hx⟩
    case round =>
      obtain ⟨k, pre, hk, rfl, hpre, hp8, ho, hx1⟩ := hrel
      rcases k with _ | k
      · go_wp2
        go_ret
        have e2 : oput l v N = l ++ pre := by
          have := hpre.out
          simp [be] at this
          rw [oput, if_neg (by omega), this]; simp
        exact RetNw.mk (by rw [e2]; exact ho) hx1
      · have s1 : (l ++ pre).length + 1 ≤ maxLen := by simp [maxLen]; omega
        have s2 : ((l ++ pre).length + 1) * 1 ≤ 140737488355328 := by simp; omega
        have s3 : w.heap.size ≤ wr.heap.size + 1 := Nat.le_trans hx1.size (Nat.le_succ _)
        have e1 := hide (be_step k v hv)
        go_wp2_with (at_builtin; refine wpList_append_any _ rfl (.tmp 24) (.tmp 31) 24 rfl w.heap.size 5 i0 (.int .u8 0) 1 1 Try.underlying24 hi hz0 hz1 hz2 rfl (by decide) u7 _ _ rfl (ho.alloc _) _ _ 1 1 _ rfl (Reads.one _ _ _) (one_int _ _) s1 s2 (by simpa using s3) ?_; intro v' w' hown hg _)
        go_roundw
        case rel =>
          obtain ⟨e1, e2⟩ := e1.out
          have e3 := hpre.out
          rw [e1] at e3
          have e4 := congrArg List.length e3
          simp [be_length] at e4
          refine ⟨k, pre ++ [UInt8.ofNat (v.toNat / 2 ^ (8 * k))], by omega, rfl, hide (by rw [← e3]; simp), by simp; omega, ?_, (hx1.alloc' _).grown' hg (fun j hj => (ho.lt j hj).1)⟩
          rw [e2] at hown
          simpa [bv, Nat.add_assoc] using hown
        case measure => simp [intOf]
/-- the number of bytes, the greatest first -/
def val (l : Bytes) : Nat := l.foldl (fun a b => a * 256 + b.toNat) 0
theorem val_snoc (l : Bytes) (b : UInt8) : val (l ++ [b]) = val l * 256 + b.toNat := by simp [val]
theorem val_from (l : Bytes) : ∀ a : Nat, l.foldl (fun a b => a * 256 + b.toNat) a < (a + 1) * 256 ^ l.length := by
  induction l with
  | nil => intro a; simp
  | cons b l ih =>
    intro a
    have h := ih (a * 256 + b.toNat)
    have hb := b.toNat_lt
    have h2 : (a * 256 + b.toNat + 1) * 256 ^ l.length ≤ ((a + 1) * 256) * 256 ^ l.length := Nat.mul_le_mul_right _ (by omega)
    simp only [List.foldl_cons, List.length_cons, Nat.pow_succ]
    rw [Nat.mul_assoc, Nat.mul_comm 256, ] at h2
    omega
theorem val_lt (l : Bytes) : val l < 256 ^ l.length := by have := val_from l 0; simpa [val] using this
def otake (l : Bytes) (n : Int) : Int × Int := if n < 0 ∨ 8 < n then (0, 1) else if (l.length : Int) < n then (0, 3) else (val (l.take n.toNat), 0)
theorem Reads.byte {w : World} {B : Nat} {A : Option Addr} {l : Bytes} {n k : Nat} (h : Reads w B 1 A n (bv l)) (hk : k < n) :
    ∃ ad b, A = some ad ∧ ad.block < B ∧ Hid (l[k]? = some b) ∧ w.cell? (ad.add k) = some (.int .u8 (b.toNat : Nat)) ∧ (b.toNat : Int) ≤ 255 := by
  obtain ⟨ad, u, h1, h2, h3, h4⟩ := h.at_ hk
  have hl : k < l.length := by have := h.1; simp at this; omega
  refine ⟨ad, l[k], h1, h2, hide (by simp [hl]), ?_, by have := l[k].toNat_lt; omega⟩
  rw [bv_at l k hl] at h3
  rw [h4, ← h3]
theorem val_take_lt (l : Bytes) (k : Nat) (h : k < 8) : (val (l.take k) : Int) ≤ 72057594037927935 := by
  have h1 := val_lt (l.take k)
  have h2 : 256 ^ (l.take k).length ≤ 256 ^ 7 := Nat.pow_le_pow_right (by omega) (by have := List.length_take_le k l; omega)
  have h3 : (256 : Nat) ^ 7 = 72057594037927936 := by decide
  omega
theorem take_step (l : Bytes) (k : Nat) (b : UInt8) (h : Hid (l[k]? = some b)) (hv : (val (l.take k) : Int) ≤ 72057594037927935) :
    bits .or .u64 ((val (l.take k) : Int) * 256) (b.toNat : Int) = (val (l.take (k + 1)) : Nat) := by
  have hb := b.toNat_lt
  have e1 : l.take (k + 1) = l.take k ++ [b] := by rw [List.take_add_one, h.out]; rfl
  rw [e1, val_snoc]
  have e2 : (val (l.take k) : Int) * 256 = ((val (l.take k) * 256 : Nat) : Int) := by simp
  rw [e2, u64_or_nat _ _ (by omega) (by omega)]
  have e3 := Nat.shiftLeft_add_eq_or_of_lt (i := 8) (b := b.toNat) (by omega) (val (l.take k))
  rw [Nat.shiftLeft_eq] at e3
  simp only [Nat.reducePow] at e3
  rw [e3]
set_option maxHeartbeats 400000 in
theorem take_b (x : Value) (l : Bytes) (n : Int) (w : World) (hn : -9223372036854775808 ≤ n ∧ n ≤ 9223372036854775807) (hl : l.length ≤ 140737488355328) (hr : Bs w x l) :
    Calls Try.prog 99 #[x, .int .i64 n] w fun e w' => e = .returned (.tuple #[.int .u64 (otake l n).1, .int .i64 (otake l n).2]) ∧ w = w' := by
  obtain ⟨A, c, rfl, h1, h2, h3⟩ := hr
  by_cases hb : n < 0 ∨ 8 < n
  · have e1 : otake l n = (0, 1) := if_pos hb
    rw [e1]
    clear e1
    go_enter Try.func99, Try.ntmps99
    go_wp2
    all_goals go_ret2
    all_goals exact ⟨rfl, rfl⟩
  · have hb1 : ¬ n < 0 := fun h => hb (.inl h)
    have hb2 : ¬ 8 < n := fun h => hb (.inr h)
    by_cases hs : (l.length : Int) < n
    · have e1 : otake l n = (0, 3) := by rw [otake, if_neg hb, if_pos hs]
      rw [e1]
      clear e1 hb
      go_enter Try.func99, Try.ntmps99
      go_wp2
      all_goals go_ret2
      all_goals exact ⟨rfl, rfl⟩
    · obtain ⟨N, rfl⟩ := Int.eq_ofNat_of_zero_le (show (0 : Int) ≤ n by omega)
      have e1 : otake l N = (((val (l.take N) : Nat) : Int), (0 : Int)) := by rw [otake, if_neg hb, if_neg hs]; rfl
      rw [e1]
      clear e1 hb
      go_enter Try.func99, Try.ntmps99
      go_wp2
      go_loop [4, 24] (fun v i => ∃ k : Nat, k ≤ N ∧ i = .int .i64 k ∧ v = .int .u64 (val (l.take k))) (fun _ i => (N - intOf i).toNat)
      case atStart => exact ⟨0, Nat.zero_le _, rfl, rfl⟩
      case round =>
        obtain ⟨k, hk, rfl, rfl⟩ := hrel
        by_cases hlt : k < N
        · obtain ⟨ad, b, rfl, hbk, hu, hcell, hb⟩ := h3.byte (show k < l.length by omega)
          have hv := val_take_lt l k (by omega)
          have e1 := hide (take_step l k b hu hv)
          go_wp2
          refine ⟨⟨k + 1, by omega, by go_num, ?_⟩, by simp [intOf]; omega⟩
          rw [e1.out]
        · go_wp2
          go_ret2
          obtain rfl : k = N := by omega
          exact ⟨rfl, rfl⟩
theorem grow_nil (n : Int) (w : World) (h0 : 0 ≤ n) (h1 : n ≤ 140737488355328) :
    Calls Try.prog 102 #[.slice none 0 0, .int .i64 n] w fun e w' => RetNw w w' e [] := by
  obtain ⟨i0, hi, hz0, hz1, hz2⟩ := info_parts ti5
  obtain ⟨m, rfl⟩ := Int.eq_ofNat_of_zero_le h0
  rcases Nat.eq_zero_or_pos m with rfl | hm
  · go_enter Try.func102, Try.ntmps102
    go_wp2
    go_ret
    exact RetNw.mk (World.ownsRow_nil _ _ _ _) (Below.refl _ _)
  · have hr := fun ty => run_append_zeros (P := Try.prog) w 24 3 ty 5 i0 (.int .u8 0) Try.underlying24 Try.underlying3 hi hz0 (by omega) m hm (by rw [hz2]; omega) (by omega)
    have HR := hide hr
    clear hr
    go_enter Try.func102, Try.ntmps102
    go_wp2_with (at_builtin; refine wpList_append_run rfl _ _ _ rfl (.slice none 0 0) (.int .i64 (m : Int)) rfl rfl (HR.out _) ?_)
    go_ret
    have hge := grownCap_ge w m 0 5
    have hle := grownCap_le_maxLen w m 0 5 (by simp [maxLen]; omega)
    refine RetNw.mk (World.ownsRow_made w _ _ (Nat.le_refl _) hle ?_) ((Below.refl _ _).alloc (Nat.le_refl _) _).drew
    simp [size_zeroCells, Value.cells]
    omega
/-! ### lists of bytes -/
/-- A value of type [][]byte that reads as ls. -/
def Parts (w : World) (x : Value) (ls : List Bytes) : Prop :=
  ∃ A c vs, x = .slice A ls.length c ∧ ls.length ≤ c ∧ c ≤ maxLen ∧ Reads w w.heap.size 1 A ls.length vs ∧ ∀ (k : Nat) (b : Bytes), ls[k]? = some b → ∃ v, vs[k]? = some v ∧ Bs w v b
theorem Parts.ext {w w' : World} {x : Value} {ls : List Bytes} (h : Parts w x ls) (hx : Ext w w') : Parts w' x ls := by
  obtain ⟨A, c, vs, rfl, h1, h2, h3, h4⟩ := h
  exact ⟨A, c, vs, rfl, h1, h2, h3.ext hx, fun k b hk => by obtain ⟨v, hv, hb⟩ := h4 k b hk; exact ⟨v, hv, hb.ext hx⟩⟩
def lens (ls : List Bytes) : Nat := (ls.map List.length).sum
theorem lens_snoc (ls : List Bytes) (b : Bytes) : lens (ls ++ [b]) = lens ls + b.length := by simp [lens]
theorem lens_append (a b : List Bytes) : lens (a ++ b) = lens a + lens b := by simp [lens]
theorem lens_take (ls : List Bytes) (k : Nat) (b : Bytes) (h : ls[k]? = some b) : lens (ls.take (k + 1)) = lens (ls.take k) + b.length ∧ lens (ls.take k) + b.length ≤ lens ls ∧ (ls.take (k + 1)).flatten = (ls.take k).flatten ++ b := by
  have e : ls.take (k + 1) = ls.take k ++ [b] := by rw [List.take_add_one, h]; rfl
  have h2 : ls = ls.take (k + 1) ++ ls.drop (k + 1) := (List.take_append_drop _ _).symm
  refine ⟨by rw [e, lens_snoc], ?_, by rw [e]; simp⟩
  rw [← lens_snoc, ← e]
  have h3 := congrArg lens h2
  rw [lens_append] at h3
  omega
theorem lens_flatten (ls : List Bytes) : ls.flatten.length = lens ls := by simp [lens, List.length_flatten]
set_option maxHeartbeats 800000 in
theorem concat_b (x : Value) (ls : List Bytes) (w : World) (hl : lens ls ≤ 140737488355000) (hn : ls.length ≤ 140737488355000) (hp : Parts w x ls) :
    Calls Try.prog 79 #[x] w fun e w' => RetNw w w' e ls.flatten := by
  obtain ⟨i0, hi, hz0, hz1, hz2⟩ := info_parts ti5
  obtain ⟨A, c, vs, rfl, h1, h2, h3, h4⟩ := hp
  have H4 := hide h4
  clear h4
  go_enter Try.func79, Try.ntmps79
  go_wp2
  go_loop [3, 11] (fun s i => ∃ k : Nat, k ≤ ls.length ∧ i = .int .i64 k ∧ s = .int .i64 (lens (ls.take k))) (fun _ i => (ls.length - intOf i).toNat)
  case atStart => exact ⟨0, Nat.zero_le _, rfl, rfl⟩
  case round =>
    obtain ⟨k, hk, rfl, rfl⟩ := hrel
    by_cases hlt : k < ls.length
    · obtain ⟨ad, u, rfl, hbk, hu, hcell⟩ := h3.at_ hlt
      obtain ⟨v, hv, A', c', rfl, g1, g2, g3⟩ := H4.out k ls[k] (by simp [hlt])
      obtain rfl : u = _ := Option.some.inj (hu.symm.trans hv)
      clear hu hv
      obtain ⟨e1, e2, e3⟩ := lens_take ls k ls[k] (by simp [hlt])
      have E1 := hide e1
      clear e1 e3
      go_wp2
      go_round
      case rel => exact ⟨k + 1, by omega, by go_num, by rw [E1.out]; go_num⟩
      case measure => simp [intOf]; omega
    · obtain rfl : k = ls.length := by omega
      go_wp2_with (go_at_call 102; refine (grow_nil _ _ (by omega) (by omega)).mono ?_; rintro e w1 ⟨m, Am, cm, hm, rfl, hy, hx⟩)
      go_loopw [6, 27] (fun o i wr => ∃ k : Nat, k ≤ ls.length ∧ i = .int .i64 k ∧ Nw w wr o (ls.take k).flatten ∧ Ext w wr) (fun _ i _ => (ls.length - intOf i).toNat)
      case atStart => exact ⟨0, Nat.zero_le _, rfl, by have := hm.out; subst this; exact hy, hx⟩
      case round =>
        obtain ⟨k, hk, rfl, ho, hx1⟩ := hrel
        by_cases hlt : k < ls.length
        · obtain ⟨ad, u, rfl, hbk, hu, hcell⟩ := (h3.ext hx1).at_ hlt
          obtain ⟨v, hv, hbs⟩ := H4.out k ls[k] (by simp [hlt])
          obtain ⟨A', c', rfl, g1, g2, g3⟩ := hbs.ext hx1
          obtain rfl : u = _ := Option.some.inj (hu.symm.trans hv)
          clear hu hv hbs
          obtain ⟨e1, e2, e3⟩ := lens_take ls k ls[k] (by simp [hlt])
          have e4 := lens_flatten (ls.take k)
          have s1 : (ls.take k).flatten.length + ls[k].length ≤ maxLen := by simp only [maxLen]; omega
          have s2 : ((ls.take k).flatten.length + ls[k].length) * 1 ≤ 140737488355328 := by omega
          have E3 := hide e3
          clear e1 e3 e4
          go_wp2_with (at_builtin; refine wpList_append_any _ rfl (.tmp 31) (.tmp 32) 24 rfl w.heap.size 5 i0 (.int .u8 0) 1 1 Try.underlying24 hi hz0 hz1 hz2 rfl (by decide) u6 _ _ rfl ho _ _ _ _ _ rfl g3 (bv_one _) s1 s2 hx1.size ?_; intro v' w' hown hg _)
          go_roundw
          case rel =>
            refine ⟨k + 1, by omega, by go_num, ?_, hx1.grown' hg (fun j hj => (ho.lt j hj).1)⟩
            unfold Nw
            rw [E3.out, List.length_append, bv_append]
            exact hown
          case measure => simp [intOf]; omega
        · obtain rfl : k = ls.length := by omega
          go_wp2
          go_ret
          rw [List.take_length] at ho
          exact RetNw.mk ho hx1
theorem Parts.lit {w : World} (e : TypeId) {vs : List Value} {ls : List Bytes} (hl : vs.length = ls.length) (hm : ls.length ≤ maxLen) (h : ∀ (k : Nat) (b : Bytes), ls[k]? = some b → ∃ v, vs[k]? = some v ∧ Bs w v b) :
    Parts (w.alloc (.cells vs.toArray e)) (.slice (some ⟨w.heap.size, 0, none⟩) ls.length ls.length) ls := by
  have hx : Ext w (w.alloc (.cells vs.toArray e)) := (Below.refl _ _).alloc (Nat.le_refl _) _
  refine ⟨_, _, vs, rfl, Nat.le_refl _, hm, ?_, fun k b hk => ?_⟩
  · have := Reads.of_own (World.ownsRow_lit (base := 0) (e := e) (size := 1) w vs.toArray ls.length (Nat.zero_le _) hm (by simpa using hl))
    simpa using this
  · obtain ⟨v, hv, hb⟩ := h k b hk
    exact ⟨v, hv, hb.ext hx⟩
theorem Parts.one {w : World} (e : TypeId) {v : Value} {b : Bytes} {g : Nat} (hg : w.heap.size = g) (h : Bs w v b) : Parts (w.alloc (.cells #[v] e)) (.slice (some ⟨g, 0, none⟩) 1 1) [b] := by
  subst hg
  refine Parts.lit (vs := [v]) (ls := [b]) e rfl (by simp [maxLen]) ?_
  intro k b' hk
  rcases k with _ | k
  · simp at hk; subst hk; exact ⟨_, rfl, h⟩
  · simp at hk
theorem Parts.two {w : World} (e : TypeId) {v1 v2 : Value} {b1 b2 : Bytes} {g : Nat} (hg : w.heap.size = g) (h1 : Bs w v1 b1) (h2 : Bs w v2 b2) : Parts (w.alloc (.cells #[v1, v2] e)) (.slice (some ⟨g, 0, none⟩) 2 2) [b1, b2] := by
  subst hg
  refine Parts.lit (vs := [v1, v2]) (ls := [b1, b2]) e rfl (by simp [maxLen]) ?_
  intro k b' hk
  rcases k with _ | _ | k
  · simp at hk; subst hk; exact ⟨_, rfl, h1⟩
  · simp at hk; subst hk; exact ⟨_, rfl, h2⟩
  · simp at hk
/-- two, side by side, as the call lays them -/
theorem cat2_b (v1 v2 : Value) (b1 b2 : Bytes) (w : World) (g : Nat) (hg : w.heap.size = g) (hl : b1.length + b2.length ≤ 140737488355000) (h1 : Bs w v1 b1) (h2 : Bs w v2 b2) :
    Calls Try.prog 79 #[.slice (some ⟨g, 0, none⟩) 2 2] (w.alloc (.cells #[v1, v2] 24)) fun e w' => RetNw w w' e (b1 ++ b2) :=
  (concat_b _ [b1, b2] _ (by simp [lens]; omega) (by simp) (Parts.two _ hg h1 h2)).mono fun e w' h => (h.trans ((Ext.rfl' w).alloc' _)).eq (by simp)
/-- What a function returns that reads bytes off bytes: new bytes, how many were read, an error. -/
def RetRead (w w' : World) (e : Ending) (r : Bytes × Int × Int) : Prop :=
  ∃ (m : Bytes) (A : Option Addr) (c : Nat) (n k : Int), Hid ((m, n, k) = r) ∧ e = .returned (.tuple #[.slice A m.length c, .int .i64 n, .int .i64 k]) ∧ Nw w w' (.slice A m.length c) m ∧ Ext w w'
theorem RetRead.none_ {w w' : World} (hx : Ext w w') (k : Int) : RetRead w w' (.returned (.tuple #[.slice none 0 0, .int .i64 0, .int .i64 k])) ([], 0, k) :=
  ⟨[], none, 0, 0, k, hide rfl, rfl, World.ownsRow_nil _ _ _ _, hx⟩
theorem otake_cases (b : Bytes) (n : Nat) (hn : n ≤ 8) : (b.length < n ∧ otake b n = (0, 3)) ∨ (n ≤ b.length ∧ otake b n = (((val (b.take n) : Nat) : Int), (0 : Int))) := by
  have h1 : ¬ ((n : Int) < 0 ∨ 8 < (n : Int)) := by omega
  rcases Nat.lt_or_ge b.length n with h | h
  · exact .inl ⟨h, by rw [otake, if_neg h1, if_pos (by omega)]⟩
  · exact .inr ⟨h, by rw [otake, if_neg h1, if_neg (by omega)]; rfl⟩
end Go.Proofs.Ytlblgopfdadalaa
namespace Go.Proofs.Ytlblgopfdadalaa.Crc
set_option linter.unusedVariables false
set_option linter.unusedSimpArgs false
set_option linter.unnecessarySimpa false
set_option maxRecDepth 100000
/-- one bit of a sum taken in -/
def step (c : Nat) : Nat := c / 2 ^^^ (if c % 2 = 1 then 3988292384 else 0)
def steps : Nat → Nat → Nat
  | 0, c => c
  | n + 1, c => steps n (step c)
theorem steps_succ (n c : Nat) : steps (n + 1) c = step (steps n c) := by
  induction n generalizing c with
  | zero => rfl
  | succ n ih => rw [steps, ih]; rfl
def tab (i : Nat) : Nat := steps 8 i
/-- one byte taken in -/
def byte (c : Nat) (x : UInt8) : Nat := tab (c % 256 ^^^ x.toNat) ^^^ c / 256
def from_ (c : Nat) (l : List UInt8) : Nat := l.foldl byte c
def sum (l : List UInt8) : Nat := 4294967295 - from_ 4294967295 l
theorem div2_xor (a b : Nat) : (a ^^^ b) / 2 = a / 2 ^^^ b / 2 := by
  have := @Nat.shiftRight_xor_distrib 1 a b
  simpa [Nat.shiftRight_eq_div_pow] using this
theorem mod2_xor (a b : Nat) : (a ^^^ b) % 2 = 1 ↔ ¬ (a % 2 = 1 ↔ b % 2 = 1) := by
  have h := Nat.testBit_xor (x := a) (y := b) (i := 0)
  simp only [Nat.testBit_zero] at h
  have h2 : decide ((a ^^^ b) % 2 = 1) = true ↔ ((decide (a % 2 = 1)) ^^ (decide (b % 2 = 1))) = true := by rw [h]
  simp only [decide_eq_true_eq] at h2
  rw [h2]
  by_cases ha : a % 2 = 1 <;> by_cases hb : b % 2 = 1 <;> simp [ha, hb]
theorem step_xor (a b : Nat) : step (a ^^^ b) = step a ^^^ step b := by
  unfold step
  rw [div2_xor]
  have h := mod2_xor a b
  by_cases ha : a % 2 = 1 <;> by_cases hb : b % 2 = 1
  · rw [if_neg (by rw [h]; simp [ha, hb]), if_pos ha, if_pos hb]
    simp only [Nat.xor_zero]
    rw [Nat.xor_assoc, Nat.xor_comm 3988292384, Nat.xor_assoc, Nat.xor_self, Nat.xor_zero]
  · rw [if_pos (by rw [h]; simp [ha, hb]), if_pos ha, if_neg hb, Nat.xor_zero, Nat.xor_assoc, Nat.xor_assoc, Nat.xor_comm 3988292384]
  · rw [if_pos (by rw [h]; simp [ha, hb]), if_neg ha, if_pos hb, Nat.xor_zero, Nat.xor_assoc]
  · rw [if_neg (by rw [h]; simp [ha, hb]), if_neg ha, if_neg hb]
    simp
theorem steps_xor (n a b : Nat) : steps n (a ^^^ b) = steps n a ^^^ steps n b := by
  induction n generalizing a b with
  | zero => rfl
  | succ n ih => rw [steps, step_xor, ih]; rfl
theorem step_two (c : Nat) : step (2 * c) = c := by
  unfold step
  rw [if_neg (by omega)]
  simp
theorem steps_pow (n c : Nat) : steps n (2 ^ n * c) = c := by
  induction n generalizing c with
  | zero => simp [steps]
  | succ n ih => rw [steps, show 2 ^ (n + 1) * c = 2 * (2 ^ n * c) by rw [Nat.pow_succ]; simp [Nat.mul_comm, Nat.mul_left_comm], step_two, ih]
theorem split256 (c : Nat) : c = (c % 256) ^^^ (256 * (c / 256)) := by
  have h := Nat.two_pow_add_eq_or_of_lt (i := 8) (b := c % 256) (by omega) (c / 256)
  have h2 : 256 * (c / 256) + c % 256 = c := by omega
  simp only [Nat.reducePow] at h
  apply Nat.eq_of_testBit_eq
  intro i
  rw [Nat.testBit_xor]
  have e : (256 : Nat) = 2 ^ 8 := rfl
  rw [e, Nat.testBit_mod_two_pow, Nat.testBit_two_pow_mul, Nat.testBit_div_two_pow]
  by_cases hi : i < 8
  · simp [hi, show ¬ i ≥ 8 by omega]
  · simp [hi, show i ≥ 8 by omega, show i - 8 + 8 = i by omega]
/-- eight bits at once are one look into the table -/
theorem steps_byte (c : Nat) (x : UInt8) : steps 8 (c ^^^ x.toNat) = byte c x := by
  have h := split256 c
  have e : c ^^^ x.toNat = (c % 256 ^^^ x.toNat) ^^^ (2 ^ 8 * (c / 256)) := by
    conv => lhs; rw [h]
    rw [Nat.xor_assoc, Nat.xor_comm (256 * (c / 256)), Nat.xor_assoc]
  rw [e, steps_xor, steps_pow]
  rfl
theorem step_lt (c : Nat) (h : c < 4294967296) : step c < 4294967296 := by
  unfold step
  exact Nat.xor_lt_two_pow (n := 32) (by omega) (by split <;> omega)
theorem steps_lt (n c : Nat) (h : c < 4294967296) : steps n c < 4294967296 := by
  induction n generalizing c with
  | zero => exact h
  | succ n ih => exact ih _ (step_lt c h)
theorem byte_lt (c : Nat) (x : UInt8) (h : c < 4294967296) : byte c x < 4294967296 := by
  rw [← steps_byte]
  have := x.toNat_lt
  exact steps_lt _ _ (Nat.xor_lt_two_pow (n := 32) h (by omega))
theorem from_lt (l : List UInt8) (c : Nat) (h : c < 4294967296) : from_ c l < 4294967296 := by
  induction l generalizing c with
  | nil => exact h
  | cons x l ih => exact ih _ (byte_lt c x h)
theorem sum_lt (l : List UInt8) : sum l < 4294967296 := by unfold sum; omega
theorem from_append (l m : List UInt8) (c : Nat) : from_ c (l ++ m) = from_ (from_ c l) m := by simp [from_, List.foldl_append]
end Go.Proofs.Ytlblgopfdadalaa.Crc
