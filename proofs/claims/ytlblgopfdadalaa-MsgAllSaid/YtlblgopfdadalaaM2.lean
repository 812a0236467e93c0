/- A part of the proof of 'MsgAll'. -/
import Derived.Test.YtlblgopfdadalaaM1
import Derived.Deep.WholeRow
import Derived.Lib.SlBytesConst
namespace Go.Proofs.Ytlblgopfdadalaa
set_option linter.unusedVariables false
set_option linter.unusedSimpArgs false
set_option linter.unnecessarySimpa false
set_option maxRecDepth 100000
open Go.RowKit
theorem nw_mk {w w' : World} {v : Value} {l : Bytes} {n : Nat} (hn : Hid (List.length l = n)) (h : w'.ownsRow w.heap.size 5 1 v (0 + n) ([] ++ bv l)) : Nw w w' v l := by
  have hn' := hn.out
  subst hn'
  simpa [Nw] using h
set_option maxHeartbeats 400000 in
theorem clone_b (x : Value) (l : Bytes) (w : World) (hl : l.length ≤ 140737488355328) (hx : Bs w x l) :
    Calls Try.prog 71 #[x] w fun e w' => RetNw w w' e l := by
  obtain ⟨A, c, rfl, _, _, hr⟩ := hx
  have q := fun (w : World) (a : Option Addr) (n c n' c' : Nat) => Lib.run_eql_slice_nil (P := Try.prog) w _ _ a n c n' c' Try.underlying24
  obtain ⟨i0, hi, hz0, hz1, hz2⟩ := info_parts ti5
  generalize hn : l.length = n at *
  have HN := hide hn
  clear hn
  rcases A with _ | ad
  · go_enter Try.func71, Try.ntmps71
    go_wp2
    go_ret
    have h0 : l = [] := by
      rcases Nat.eq_zero_or_pos n with h | h
      · have := HN.out; subst h; exact List.eq_nil_of_length_eq_zero this
      · obtain ⟨_, h, _⟩ := hr.2 h; cases h
    subst h0
    exact RetNw.mk (World.ownsRow_nil _ _ _ _) (Below.refl _ _)
  · go_enter Try.func71, Try.ntmps71
    go_wp2_with (at_builtin; refine wpList_append_any _ rfl _ _ 24 rfl w.heap.size 5 i0 (.int .u8 0) 1 1 Try.underlying24 hi hz0 hz1 hz2 rfl (by decide) _ 0 [] rfl (World.ownsRow_lit w #[] 0 (Nat.le_refl _) (by decide) rfl) w.heap.size (some ad) n c (bv l) rfl (hr.alloc (Nat.le_refl _) _) (bv_one l) (by simp [maxLen]; omega) (by omega) (by simp) ?_; intro v' w' hown hg _)
    go_ret
    exact RetNw.mk (nw_mk HN hown) (((Below.refl _ _).alloc (Nat.le_refl _) _).grown hg (by simp) (fun k hk => Nat.le_of_eq (Option.some.inj hk)))
/-- the n bytes of a number, the greatest first -/
def be : Nat → Nat → Bytes
  | 0, _ => []
  | n + 1, v => UInt8.ofNat (v / 2 ^ (8 * n)) :: be n v
def oput (l : Bytes) (v n : Int) : Bytes := if n < 0 ∨ 8 < n then l else l ++ be n.toNat v.toNat
theorem be_length (n v : Nat) : (be n v).length = n := by induction n with
  | zero => rfl
  | succ n ih => simp [be, ih]
theorem Reads.one (w : World) (e : TypeId) (X : Value) : Reads (w.alloc (.cells #[X] e)) (w.heap.size + 1) 1 (some ⟨w.heap.size, 0, none⟩) 1 [X] := by
  refine ⟨rfl, fun _ => ⟨_, rfl, by simp, fun j u hu => ?_⟩⟩
  rcases j with _ | j
  · simp at hu; subst hu
    rw [show (⟨w.heap.size, 0, none⟩ : Addr).add 0 = ⟨w.heap.size, 0, none⟩ from rfl, cell_of_row _ _ _ _ _ _ (heap_alloc_new w _)]; rfl
  · simp at hu
theorem one_int (k : IntKind) (n : Int) : ∀ u ∈ [Value.int k n], u.oneCell' = true := by
  intro u hu
  simp at hu; subst hu; rfl
theorem be_step (k : Nat) (v : Int) (hv : 0 ≤ v ∧ v ≤ 18446744073709551615) : be (k + 1) v.toNat = UInt8.ofNat (v.toNat / 2 ^ (8 * k)) :: be k v.toNat ∧
    Value.int .u8 (v / 2 ^ (8 * k) % 256) = .int .u8 ((UInt8.ofNat (v.toNat / 2 ^ (8 * k))).toNat : Nat) := by
  refine ⟨rfl, ?_⟩
  obtain ⟨n, rfl⟩ := Int.eq_ofNat_of_zero_le hv.1
  simp
set_option maxHeartbeats 400000 in
theorem put_b (x : Value) (l : Bytes) (v n : Int) (w : World) (hv : 0 ≤ v ∧ v ≤ 18446744073709551615) (hn : -9223372036854775808 ≤ n ∧ n ≤ 9223372036854775807) (hl : l.length ≤ 140737488355000) (hr : Bs w x l) :
    Calls Try.prog 38 #[x, .int .u64 v, .int .i64 n] w fun e w' => RetNw w w' e (oput l v n) := by
  obtain ⟨i0, hi, hz0, hz1, hz2⟩ := info_parts ti5
  obtain ⟨A, c, rfl, h1, h2, h3⟩ := id hr
  by_cases hb : n < 0 ∨ 8 < n
  · have e1 : oput l v n = l := if_pos hb
    rw [e1]
    clear e1
    go_enter Try.func38, Try.ntmps38
    go_wp2_with (go_at_call 71; refine (clone_b _ l w (by omega) hr).mono ?_; rintro e w1 ⟨m, Am, cm, hm, rfl, hy, hx⟩)
    all_goals go_ret
    all_goals exact ⟨m, Am, cm, hm, rfl, hy, hx⟩
  · have hb1 : ¬ n < 0 := fun h => hb (.inl h)
    have hb2 : ¬ 8 < n := fun h => hb (.inr h)
    clear hb
    go_enter Try.func38, Try.ntmps38
    go_wp2_with (go_at_call 71; refine (clone_b _ l w (by omega) hr).mono ?_; rintro e w1 ⟨m, Am, cm, hm, rfl, hy, hx⟩)
    obtain ⟨N, rfl⟩ := Int.eq_ofNat_of_zero_le (show (0 : Int) ≤ n by omega)
    go_loopw [7, 8] (fun o i wr => ∃ (k : Nat) (pre : Bytes), k ≤ N ∧ i = .int .i64 (k - 1) ∧ Hid (pre ++ be k v.toNat = be N v.toNat) ∧ pre.length ≤ 8 ∧ wr.ownsRow w.heap.size 5 1 o (l ++ pre).length (bv (l ++ pre)) ∧ Ext w wr) (fun _ i _ => (intOf i + 1).toNat)
    case atStart => exact ⟨N, [], Nat.le_refl _, rfl, hide rfl, by simp, by have := hm.out; subst this; simpa [Nw] using hy, hx⟩
    case round =>
      obtain ⟨k, pre, hk, rfl, hpre, hp8, ho, hx1⟩ := hrel
      rcases k with _ | k
      · go_wp2
        go_ret
        have e2 : oput l v N = l ++ pre := by
          have := hpre.out
          simp [be] at this
          rw [oput, if_neg (by omega), this]; simp
        exact RetNw.mk (by rw [e2]; exact ho) hx1
      · have s1 : (l ++ pre).length + 1 ≤ maxLen := by simp [maxLen]; omega
        have s2 : ((l ++ pre).length + 1) * 1 ≤ 140737488355328 := by simp; omega
        have s3 : w.heap.size ≤ wr.heap.size + 1 := Nat.le_trans hx1.size (Nat.le_succ _)
        have e1 := hide (be_step k v hv)
        go_wp2_with (at_builtin; refine wpList_append_any _ rfl (.tmp 24) (.tmp 31) 24 rfl w.heap.size 5 i0 (.int .u8 0) 1 1 Try.underlying24 hi hz0 hz1 hz2 rfl (by decide) u7 _ _ rfl (ho.alloc _) _ _ 1 1 _ rfl (Reads.one _ _ _) (one_int _ _) s1 s2 (by simpa using s3) ?_; intro v' w' hown hg _)
        go_roundw
        case rel =>
          obtain ⟨e1, e2⟩ := e1.out
          have e3 := hpre.out
          rw [e1] at e3
          have e4 := congrArg List.length e3
          simp [be_length] at e4
          refine ⟨k, pre ++ [UInt8.ofNat (v.toNat / 2 ^ (8 * k))], by omega, rfl, hide (by rw [← e3]; simp), by simp; omega, ?_, (hx1.alloc' _).grown' hg (fun j hj => (ho.lt j hj).1)⟩
          rw [e2] at hown
          simpa [bv, Nat.add_assoc] using hown
        case measure => simp [intOf]
/-- the number of bytes, the greatest first -/
def val (l : Bytes) : Nat := l.foldl (fun a b => a * 256 + b.toNat) 0
theorem val_snoc (l : Bytes) (b : UInt8) : val (l ++ [b]) = val l * 256 + b.toNat := by simp [val]
theorem val_from (l : Bytes) : ∀ a : Nat, l.foldl (fun a b => a * 256 + b.toNat) a < (a + 1) * 256 ^ l.length := by
  induction l with
  | nil => intro a; simp
  | cons b l ih =>
    intro a
    have h := ih (a * 256 + b.toNat)
    have hb := b.toNat_lt
    have h2 : (a * 256 + b.toNat + 1) * 256 ^ l.length ≤ ((a + 1) * 256) * 256 ^ l.length := Nat.mul_le_mul_right _ (by omega)
    simp only [List.foldl_cons, List.length_cons, Nat.pow_succ]
    rw [Nat.mul_assoc, Nat.mul_comm 256, ] at h2
    omega
theorem val_lt (l : Bytes) : val l < 256 ^ l.length := by have := val_from l 0; simpa [val] using this
def otake (l : Bytes) (n : Int) : Int × Int := if n < 0 ∨ 8 < n then (0, 1) else if (l.length : Int) < n then (0, 3) else (val (l.take n.toNat), 0)
theorem Reads.byte {w : World} {B : Nat} {A : Option Addr} {l : Bytes} {n k : Nat} (h : Reads w B 1 A n (bv l)) (hk : k < n) :
    ∃ ad b, A = some ad ∧ ad.block < B ∧ Hid (l[k]? = some b) ∧ w.cell? (ad.add k) = some (.int .u8 (b.toNat : Nat)) ∧ (b.toNat : Int) ≤ 255 := by
  obtain ⟨ad, u, h1, h2, h3, h4⟩ := h.at_ hk
  have hl : k < l.length := by have := h.1; simp at this; omega
  refine ⟨ad, l[k], h1, h2, hide (by simp [hl]), ?_, by have := l[k].toNat_lt; omega⟩
  rw [bv_at l k hl] at h3
  rw [h4, ← h3]
theorem val_take_lt (l : Bytes) (k : Nat) (h : k < 8) : (val (l.take k) : Int) ≤ 72057594037927935 := by
  have h1 := val_lt (l.take k)
  have h2 : 256 ^ (l.take k).length ≤ 256 ^ 7 := Nat.pow_le_pow_right (by omega) (by have := List.length_take_le k l; omega)
  have h3 : (256 : Nat) ^ 7 = 72057594037927936 := by decide
  omega
theorem take_step (l : Bytes) (k : Nat) (b : UInt8) (h : Hid (l[k]? = some b)) (hv : (val (l.take k) : Int) ≤ 72057594037927935) :
    bits .or .u64 ((val (l.take k) : Int) * 256) (b.toNat : Int) = (val (l.take (k + 1)) : Nat) := by
  have hb := b.toNat_lt
  have e1 : l.take (k + 1) = l.take k ++ [b] := by rw [List.take_add_one, h.out]; rfl
  rw [e1, val_snoc]
  have e2 : (val (l.take k) : Int) * 256 = ((val (l.take k) * 256 : Nat) : Int) := by simp
  rw [e2, u64_or_nat _ _ (by omega) (by omega)]
  have e3 := Nat.shiftLeft_add_eq_or_of_lt (i := 8) (b := b.toNat) (by omega) (val (l.take k))
  rw [Nat.shiftLeft_eq] at e3
  simp only [Nat.reducePow] at e3
  rw [e3]
set_option maxHeartbeats 400000 in
theorem take_b (x : Value) (l : Bytes) (n : Int) (w : World) (hn : -9223372036854775808 ≤ n ∧ n ≤ 9223372036854775807) (hl : l.length ≤ 140737488355328) (hr : Bs w x l) :
    Calls Try.prog 99 #[x, .int .i64 n] w fun e w' => e = .returned (.tuple #[.int .u64 (otake l n).1, .int .i64 (otake l n).2]) ∧ w = w' := by
  obtain ⟨A, c, rfl, h1, h2, h3⟩ := hr
  by_cases hb : n < 0 ∨ 8 < n
  · have e1 : otake l n = (0, 1) := if_pos hb
    rw [e1]
    clear e1
    go_enter Try.func99, Try.ntmps99
    go_wp2
    all_goals go_ret2
    all_goals exact ⟨rfl, rfl⟩
  · have hb1 : ¬ n < 0 := fun h => hb (.inl h)
    have hb2 : ¬ 8 < n := fun h => hb (.inr h)
    by_cases hs : (l.length : Int) < n
    · have e1 : otake l n = (0, 3) := by rw [otake, if_neg hb, if_pos hs]
      rw [e1]
      clear e1 hb
      go_enter Try.func99, Try.ntmps99
      go_wp2
      all_goals go_ret2
      all_goals exact ⟨rfl, rfl⟩
    · obtain ⟨N, rfl⟩ := Int.eq_ofNat_of_zero_le (show (0 : Int) ≤ n by omega)
      have e1 : otake l N = (((val (l.take N) : Nat) : Int), (0 : Int)) := by rw [otake, if_neg hb, if_neg hs]; rfl
      rw [e1]
      clear e1 hb
      go_enter Try.func99, Try.ntmps99
      go_wp2
      go_loop [4, 24] (fun v i => ∃ k : Nat, k ≤ N ∧ i = .int .i64 k ∧ v = .int .u64 (val (l.take k))) (fun _ i => (N - intOf i).toNat)
      case atStart => exact ⟨0, Nat.zero_le _, rfl, rfl⟩
      case round =>
        obtain ⟨k, hk, rfl, rfl⟩ := hrel
        by_cases hlt : k < N
        · obtain ⟨ad, b, rfl, hbk, hu, hcell, hb⟩ := h3.byte (show k < l.length by omega)
          have hv := val_take_lt l k (by omega)
          have e1 := hide (take_step l k b hu hv)
          go_wp2
          refine ⟨⟨k + 1, by omega, by go_num, ?_⟩, by simp [intOf]; omega⟩
          rw [e1.out]
        · go_wp2
          go_ret2
          obtain rfl : k = N := by omega
          exact ⟨rfl, rfl⟩
theorem grow_nil (n : Int) (w : World) (h0 : 0 ≤ n) (h1 : n ≤ 140737488355328) :
    Calls Try.prog 102 #[.slice none 0 0, .int .i64 n] w fun e w' => RetNw w w' e [] := by
  obtain ⟨i0, hi, hz0, hz1, hz2⟩ := info_parts ti5
  obtain ⟨m, rfl⟩ := Int.eq_ofNat_of_zero_le h0
  rcases Nat.eq_zero_or_pos m with rfl | hm
  · go_enter Try.func102, Try.ntmps102
    go_wp2
    go_ret
    exact RetNw.mk (World.ownsRow_nil _ _ _ _) (Below.refl _ _)
  · have hr := fun ty => run_append_zeros (P := Try.prog) w 24 3 ty 5 i0 (.int .u8 0) Try.underlying24 Try.underlying3 hi hz0 (by omega) m hm (by rw [hz2]; omega) (by omega)
    have HR := hide hr
    clear hr
    go_enter Try.func102, Try.ntmps102
    go_wp2_with (at_builtin; refine wpList_append_run rfl _ _ _ rfl (.slice none 0 0) (.int .i64 (m : Int)) rfl rfl (HR.out _) ?_)
    go_ret
    have hge := grownCap_ge w m 0 5
    have hle := grownCap_le_maxLen w m 0 5 (by simp [maxLen]; omega)
    refine RetNw.mk (World.ownsRow_made w _ _ (Nat.le_refl _) hle ?_) ((Below.refl _ _).alloc (Nat.le_refl _) _).drew
    simp [size_zeroCells, Value.cells]
    omega
/-! ### lists of bytes -/
/-- A value of type [][]byte that reads as ls. -/
def Parts (w : World) (x : Value) (ls : List Bytes) : Prop :=
  ∃ A c vs, x = .slice A ls.length c ∧ ls.length ≤ c ∧ c ≤ maxLen ∧ Reads w w.heap.size 1 A ls.length vs ∧ ∀ (k : Nat) (b : Bytes), ls[k]? = some b → ∃ v, vs[k]? = some v ∧ Bs w v b
theorem Parts.ext {w w' : World} {x : Value} {ls : List Bytes} (h : Parts w x ls) (hx : Ext w w') : Parts w' x ls := by
  obtain ⟨A, c, vs, rfl, h1, h2, h3, h4⟩ := h
  exact ⟨A, c, vs, rfl, h1, h2, h3.ext hx, fun k b hk => by obtain ⟨v, hv, hb⟩ := h4 k b hk; exact ⟨v, hv, hb.ext hx⟩⟩
def lens (ls : List Bytes) : Nat := (ls.map List.length).sum
theorem lens_snoc (ls : List Bytes) (b : Bytes) : lens (ls ++ [b]) = lens ls + b.length := by simp [lens]
theorem lens_append (a b : List Bytes) : lens (a ++ b) = lens a + lens b := by simp [lens]
theorem lens_take (ls : List Bytes) (k : Nat) (b : Bytes) (h : ls[k]? = some b) : lens (ls.take (k + 1)) = lens (ls.take k) + b.length ∧ lens (ls.take k) + b.length ≤ lens ls ∧ (ls.take (k + 1)).flatten = (ls.take k).flatten ++ b := by
  have e : ls.take (k + 1) = ls.take k ++ [b] := by rw [List.take_add_one, h]; rfl
  have h2 : ls = ls.take (k + 1) ++ ls.drop (k + 1) := (List.take_append_drop _ _).symm
  refine ⟨by rw [e, lens_snoc], ?_, by rw [e]; simp⟩
  rw [← lens_snoc, ← e]
  have h3 := congrArg lens h2
  rw [lens_append] at h3
  omega
theorem lens_flatten (ls : List Bytes) : ls.flatten.length = lens ls := by simp [lens, List.length_flatten]
set_option maxHeartbeats 800000 in
theorem concat_b (x : Value) (ls : List Bytes) (w : World) (hl : lens ls ≤ 140737488355000) (hn : ls.length ≤ 140737488355000) (hp : Parts w x ls) :
    Calls Try.prog 79 #[x] w fun e w' => RetNw w w' e ls.flatten := by
  obtain ⟨i0, hi, hz0, hz1, hz2⟩ := info_parts ti5
  obtain ⟨A, c, vs, rfl, h1, h2, h3, h4⟩ := hp
  have H4 := hide h4
  clear h4
  go_enter Try.func79, Try.ntmps79
  go_wp2
  go_loop [3, 11] (fun s i => ∃ k : Nat, k ≤ ls.length ∧ i = .int .i64 k ∧ s = .int .i64 (lens (ls.take k))) (fun _ i => (ls.length - intOf i).toNat)
  case atStart => exact ⟨0, Nat.zero_le _, rfl, rfl⟩
  case round =>
    obtain ⟨k, hk, rfl, rfl⟩ := hrel
    by_cases hlt : k < ls.length
    · obtain ⟨ad, u, rfl, hbk, hu, hcell⟩ := h3.at_ hlt
      obtain ⟨v, hv, A', c', rfl, g1, g2, g3⟩ := H4.out k ls[k] (by simp [hlt])
      obtain rfl : u = _ := Option.some.inj (hu.symm.trans hv)
      clear hu hv
      obtain ⟨e1, e2, e3⟩ := lens_take ls k ls[k] (by simp [hlt])
      have E1 := hide e1
      clear e1 e3
      go_wp2
      go_round
      case rel => exact ⟨k + 1, by omega, by go_num, by rw [E1.out]; go_num⟩
      case measure => simp [intOf]; omega
    · obtain rfl : k = ls.length := by omega
      go_wp2_with (go_at_call 102; refine (grow_nil _ _ (by omega) (by omega)).mono ?_; rintro e w1 ⟨m, Am, cm, hm, rfl, hy, hx⟩)
      go_loopw [6, 27] (fun o i wr => ∃ k : Nat, k ≤ ls.length ∧ i = .int .i64 k ∧ Nw w wr o (ls.take k).flatten ∧ Ext w wr) (fun _ i _ => (ls.length - intOf i).toNat)
      case atStart => exact ⟨0, Nat.zero_le _, rfl, by have := hm.out; subst this; exact hy, hx⟩
      case round =>
        obtain ⟨k, hk, rfl, ho, hx1⟩ := hrel
        by_cases hlt : k < ls.length
        · obtain ⟨ad, u, rfl, hbk, hu, hcell⟩ := (h3.ext hx1).at_ hlt
          obtain ⟨v, hv, hbs⟩ := H4.out k ls[k] (by simp [hlt])
          obtain ⟨A', c', rfl, g1, g2, g3⟩ := hbs.ext hx1
          obtain rfl : u = _ := Option.some.inj (hu.symm.trans hv)
          clear hu hv hbs
          obtain ⟨e1, e2, e3⟩ := lens_take ls k ls[k] (by simp [hlt])
          have e4 := lens_flatten (ls.take k)
          have s1 : (ls.take k).flatten.length + ls[k].length ≤ maxLen := by simp only [maxLen]; omega
          have s2 : ((ls.take k).flatten.length + ls[k].length) * 1 ≤ 140737488355328 := by omega
          have E3 := hide e3
          clear e1 e3 e4
          go_wp2_with (at_builtin; refine wpList_append_any _ rfl (.tmp 31) (.tmp 32) 24 rfl w.heap.size 5 i0 (.int .u8 0) 1 1 Try.underlying24 hi hz0 hz1 hz2 rfl (by decide) u6 _ _ rfl ho _ _ _ _ _ rfl g3 (bv_one _) s1 s2 hx1.size ?_; intro v' w' hown hg _)
          go_roundw
          case rel =>
            refine ⟨k + 1, by omega, by go_num, ?_, hx1.grown' hg (fun j hj => (ho.lt j hj).1)⟩
            unfold Nw
            rw [E3.out, List.length_append, bv_append]
            exact hown
          case measure => simp [intOf]; omega
        · obtain rfl : k = ls.length := by omega
          go_wp2
          go_ret
          rw [List.take_length] at ho
          exact RetNw.mk ho hx1
theorem Parts.lit {w : World} (e : TypeId) {vs : List Value} {ls : List Bytes} (hl : vs.length = ls.length) (hm : ls.length ≤ maxLen) (h : ∀ (k : Nat) (b : Bytes), ls[k]? = some b → ∃ v, vs[k]? = some v ∧ Bs w v b) :
    Parts (w.alloc (.cells vs.toArray e)) (.slice (some ⟨w.heap.size, 0, none⟩) ls.length ls.length) ls := by
  have hx : Ext w (w.alloc (.cells vs.toArray e)) := (Below.refl _ _).alloc (Nat.le_refl _) _
  refine ⟨_, _, vs, rfl, Nat.le_refl _, hm, ?_, fun k b hk => ?_⟩
  · have := Reads.of_own (World.ownsRow_lit (base := 0) (e := e) (size := 1) w vs.toArray ls.length (Nat.zero_le _) hm (by simpa using hl))
    simpa using this
  · obtain ⟨v, hv, hb⟩ := h k b hk
    exact ⟨v, hv, hb.ext hx⟩
theorem Parts.one {w : World} (e : TypeId) {v : Value} {b : Bytes} {g : Nat} (hg : w.heap.size = g) (h : Bs w v b) : Parts (w.alloc (.cells #[v] e)) (.slice (some ⟨g, 0, none⟩) 1 1) [b] := by
  subst hg
  refine Parts.lit (vs := [v]) (ls := [b]) e rfl (by simp [maxLen]) ?_
  intro k b' hk
  rcases k with _ | k
  · simp at hk; subst hk; exact ⟨_, rfl, h⟩
  · simp at hk
theorem Parts.two {w : World} (e : TypeId) {v1 v2 : Value} {b1 b2 : Bytes} {g : Nat} (hg : w.heap.size = g) (h1 : Bs w v1 b1) (h2 : Bs w v2 b2) : Parts (w.alloc (.cells #[v1, v2] e)) (.slice (some ⟨g, 0, none⟩) 2 2) [b1, b2] := by
  subst hg
  refine Parts.lit (vs := [v1, v2]) (ls := [b1, b2]) e rfl (by simp [maxLen]) ?_
  intro k b' hk
  rcases k with _ | _ | k
  · simp at hk; subst hk; exact ⟨_, rfl, h1⟩
  · simp at hk; subst hk; exact ⟨_, rfl, h2⟩
  · simp at hk
/-- two, side by side, as the call lays them -/
theorem cat2_b (v1 v2 : Value) (b1 b2 : Bytes) (w : World) (g : Nat) (hg : w.heap.size = g) (hl : b1.length + b2.length ≤ 140737488355000) (h1 : Bs w v1 b1) (h2 : Bs w v2 b2) :
    Calls Try.prog 79 #[.slice (some ⟨g, 0, none⟩) 2 2] (w.alloc (.cells #[v1, v2] 24)) fun e w' => RetNw w w' e (b1 ++ b2) :=
  (concat_b _ [b1, b2] _ (by simp [lens]; omega) (by simp) (Parts.two _ hg h1 h2)).mono fun e w' h => (h.trans ((Ext.rfl' w).alloc' _)).eq (by simp)
def oputBytes (b s : Bytes) : Bytes := b ++ be 4 s.length ++ s
set_option maxHeartbeats 400000 in
theorem putBytes_b (x y : Value) (b s : Bytes) (w : World) (hl : b.length + s.length ≤ 140737488350000) (hx : Bs w x b) (hy : Bs w y s) :
    Calls Try.prog 40 #[x, y] w fun e w' => RetNw w w' e (oputBytes b s) := by
  obtain ⟨A, c, rfl, h1, h2, h3⟩ := id hy
  have E1 : Hid (oput b s.length 4 = b ++ be 4 s.length) := by simp [oput, Hid]
  go_enter Try.func40, Try.ntmps40
  go_wp2_with (go_at_call 38; refine (put_b x b _ 4 w (by omega) (by omega) (by omega) hx).mono ?_; rintro e w1 ⟨m, Am, cm, hm, rfl, hz, hx1⟩)
  have hm' := hm.out.trans E1.out
  have hm2 := congrArg List.length hm'
  simp only [List.length_append, be_length] at hm2
  refine (cat2_b _ _ m s _ _ rfl (by omega) hz.bs (hy.ext hx1)).mono ?_
  rintro e w2 ⟨m2, A2, c2, hmm, rfl, hz2, hx2⟩
  go_wp2
  go_ret
  exact ⟨m2, A2, c2, hide (by rw [hmm.out, hm']; simp [oputBytes]), rfl, hz2.trans hx1, hx1.trans' hx2⟩
def otakeBytes (b : Bytes) : Bytes × Int × Int :=
  if b.length < 4 ∨ b.length - 4 < val (b.take 4) then ([], 0, 3) else ((b.drop 4).take (val (b.take 4)), ((4 + val (b.take 4) : Nat) : Int), 0)
/-- What a function returns that reads bytes off bytes: new bytes, how many were read, an error. -/
def RetRead (w w' : World) (e : Ending) (r : Bytes × Int × Int) : Prop :=
  ∃ (m : Bytes) (A : Option Addr) (c : Nat) (n k : Int), Hid ((m, n, k) = r) ∧ e = .returned (.tuple #[.slice A m.length c, .int .i64 n, .int .i64 k]) ∧ Nw w w' (.slice A m.length c) m ∧ Ext w w'
theorem RetRead.none_ {w w' : World} (hx : Ext w w') (k : Int) : RetRead w w' (.returned (.tuple #[.slice none 0 0, .int .i64 0, .int .i64 k])) ([], 0, k) :=
  ⟨[], none, 0, 0, k, hide rfl, rfl, World.ownsRow_nil _ _ _ _, hx⟩
theorem otake_cases (b : Bytes) (n : Nat) (hn : n ≤ 8) : (b.length < n ∧ otake b n = (0, 3)) ∨ (n ≤ b.length ∧ otake b n = (((val (b.take n) : Nat) : Int), (0 : Int))) := by
  have h1 : ¬ ((n : Int) < 0 ∨ 8 < (n : Int)) := by omega
  rcases Nat.lt_or_ge b.length n with h | h
  · exact .inl ⟨h, by rw [otake, if_neg h1, if_pos (by omega)]⟩
  · exact .inr ⟨h, by rw [otake, if_neg h1, if_neg (by omega)]; rfl⟩
set_option maxHeartbeats 400000 in
theorem takeBytes_b (x : Value) (b : Bytes) (w : World) (hl : b.length ≤ 140737488350000) (hx : Bs w x b) :
    Calls Try.prog 100 #[x] w fun e w' => RetRead w w' e (otakeBytes b) := by
  obtain ⟨A, c, rfl, h1, h2, h3⟩ := id hx
  rcases otake_cases b 4 (by omega) with ⟨hs, e1⟩ | ⟨hs, e1⟩
  · have E : otakeBytes b = ([], 0, 3) := if_pos (.inl hs)
    rw [E]
    clear E
    have ht := take_b _ b 4 w (by omega) (by omega) hx
    have e2 : otake b 4 = (0, 3) := e1
    rw [e2] at ht
    clear e1 e2
    have HT := hide ht
    clear ht
    go_enter Try.func100, Try.ntmps100
    go_wp2_with (go_at_call 99; refine HT.out.mono ?_; rintro e w1 ⟨rfl, rfl⟩)
    go_ret3
    exact RetRead.none_ (Below.refl _ _) 3
  · have hlt := val_lt (b.take 4)
    have hl4 : (b.take 4).length = 4 := by simp; omega
    rw [hl4] at hlt
    have e2 : otake b 4 = (((val (b.take 4) : Nat) : Int), (0 : Int)) := e1
    have ht := take_b _ b 4 w (by omega) (by omega) hx
    rw [e2] at ht
    clear e1 e2 hl4
    have HE : Hid (otakeBytes b = if b.length - 4 < val (b.take 4) then ([], 0, 3) else ((b.drop 4).take (val (b.take 4)), ((4 + val (b.take 4) : Nat) : Int), 0)) := by
      unfold Hid otakeBytes
      by_cases hc : b.length - 4 < val (b.take 4)
      · rw [if_pos (.inr hc), if_pos hc]
      · rw [if_neg (by omega), if_neg hc]
    generalize val (b.take 4) = k at *
    have HT := hide ht
    clear ht
    by_cases hk : b.length - 4 < k
    · have hk2 : ((b.length : Int) - 4) < k := by omega
      go_enter Try.func100, Try.ntmps100
      go_wp2_with (go_at_call 99; refine HT.out.mono ?_; rintro e w1 ⟨rfl, rfl⟩)
      go_ret3
      rw [HE.out, if_pos hk]
      exact RetRead.none_ (Below.refl _ _) 3
    · have hk2 : ¬ ((b.length : Int) - 4) < k := by omega
      go_enter Try.func100, Try.ntmps100
      go_wp2_with (go_at_call 99; refine HT.out.mono ?_; rintro e w1 ⟨rfl, rfl⟩)
      have hcut := (hx.cut (l := 4) (k := k) (by omega))
      have hlen : ((b.drop 4).take k).length = k := by simp; omega
      refine (clone_b _ _ _ (by omega) hcut).mono ?_
      rintro e w2 ⟨m, Am, cm, hm, rfl, hz, hx2⟩
      go_wp2
      go_ret3
      rw [HE.out, if_neg hk]
      exact ⟨m, Am, cm, _, _, hide (by rw [hm.out]; simp), rfl, hz, hx2⟩
end Go.Proofs.Ytlblgopfdadalaa
namespace Go.Proofs.Ytlblgopfdadalaa.Crc
set_option linter.unusedVariables false
set_option linter.unusedSimpArgs false
set_option linter.unnecessarySimpa false
set_option maxRecDepth 100000
/-- one bit of a sum taken in -/
def step (c : Nat) : Nat := c / 2 ^^^ (if c % 2 = 1 then 3988292384 else 0)
def steps : Nat → Nat → Nat
  | 0, c => c
  | n + 1, c => steps n (step c)
def tab (i : Nat) : Nat := steps 8 i
/-- one byte taken in -/
def byte (c : Nat) (x : UInt8) : Nat := tab (c % 256 ^^^ x.toNat) ^^^ c / 256
def from_ (c : Nat) (l : List UInt8) : Nat := l.foldl byte c
def sum (l : List UInt8) : Nat := 4294967295 - from_ 4294967295 l
end Go.Proofs.Ytlblgopfdadalaa.Crc
namespace Go.Proofs.Ytlblgopfdadalaa
set_option linter.unusedVariables false
set_option linter.unusedSimpArgs false
set_option linter.unnecessarySimpa false
set_option maxRecDepth 100000
open Go.RowKit
end Go.Proofs.Ytlblgopfdadalaa
namespace Go.Proofs.Ytlblgopfdadalaa
set_option linter.unusedVariables false
set_option linter.unusedSimpArgs false
set_option linter.unnecessarySimpa false
set_option maxRecDepth 100000
open Go.RowKit
theorem val_cons (x : UInt8) (l : Bytes) : val (x :: l) = x.toNat * 256 ^ l.length + val l := by
  have key : ∀ (l : Bytes) (a : Nat), l.foldl (fun a b => a * 256 + b.toNat) a = a * 256 ^ l.length + val l := by
    intro l
    induction l with
    | nil => intro a; simp [val]
    | cons y l ih =>
      intro a
      have h2 := ih y.toNat
      simp only [List.foldl_cons, List.length_cons, val]
      rw [ih (a * 256 + y.toNat), ih (0 * 256 + y.toNat)]
      simp only [Nat.zero_mul, Nat.zero_add, Nat.pow_succ, Nat.add_mul]
      rw [Nat.mul_assoc, Nat.mul_comm 256, Nat.add_assoc]
  have := key l x.toNat
  simpa [val] using this
theorem val_be (n v : Nat) : val (be n v) = v % 256 ^ n := by
  induction n with
  | zero => simp [be, val, Nat.mod_one]
  | succ n ih =>
    rw [be, val_cons, be_length, ih]
    have e1 : (2 : Nat) ^ (8 * n) = 256 ^ n := by rw [Nat.pow_mul]
    have e3 : v % 256 ^ (n + 1) = v % 256 ^ n + 256 ^ n * (v / 256 ^ n % 256) := by rw [Nat.pow_succ, Nat.mod_mul]
    have e2 : (UInt8.ofNat (v / 256 ^ n)).toNat = v / 256 ^ n % 256 := by rw [UInt8.toNat_ofNat']
    rw [e1, e2, e3, Nat.mul_comm]
    omega
theorem oputBytes_length (b s : Bytes) : (oputBytes b s).length = b.length + s.length + 4 := by simp [oputBytes, be_length]; omega
theorem drop_app {α : Type} (l m : List α) (n : Nat) (h : l.length = n) : (l ++ m).drop n = m := by subst h; simp
theorem take_app {α : Type} (l m : List α) (n : Nat) (h : l.length = n) : (l ++ m).take n = l := by subst h; simp
theorem otakeBytes_put (b more : Bytes) (h : b.length < 4294967296) : otakeBytes (oputBytes [] b ++ more) = (b, ((b.length + 4 : Nat) : Int), 0) := by
  have e0 : oputBytes [] b ++ more = be 4 b.length ++ (b ++ more) := by simp [oputBytes]
  have e1 : (oputBytes [] b ++ more).take 4 = be 4 b.length := by rw [e0]; exact take_app _ _ _ (be_length _ _)
  have e2 : (oputBytes [] b ++ more).drop 4 = b ++ more := by rw [e0]; exact drop_app _ _ _ (be_length _ _)
  have e5 : val (be 4 b.length) = b.length := by rw [val_be]; exact Nat.mod_eq_of_lt (by simpa using h)
  have hl : (oputBytes [] b ++ more).length = b.length + 4 + more.length := by rw [List.length_append, oputBytes_length]; simp
  have hs : ¬ ((oputBytes [] b ++ more).length < 4 ∨ (oputBytes [] b ++ more).length - 4 < val ((oputBytes [] b ++ more).take 4)) := by rw [e1, e5, hl]; omega
  unfold otakeBytes
  rw [if_neg hs, e1, e5, e2, take_app b more b.length rfl]
  simp only [Prod.mk.injEq, true_and, and_true]
  omega
theorem otakeBytes_cut (b : Bytes) (p : Nat) (h : b.length < 4294967296) (hp : p < b.length + 4) : otakeBytes ((oputBytes [] b).take p) = ([], 0, 3) := by
  refine if_pos ?_
  have hl : ((oputBytes [] b).take p).length = p := by rw [List.length_take, oputBytes_length]; simp; omega
  rw [hl]
  by_cases h4 : p < 4
  · exact .inl h4
  · right
    have e1 : ((oputBytes [] b).take p).take 4 = be 4 b.length := by
      rw [List.take_take, Nat.min_eq_left (by omega)]
      have e0 : oputBytes [] b = be 4 b.length ++ b := by simp [oputBytes]
      rw [e0]; exact take_app _ _ _ (be_length _ _)
    rw [e1, val_be, Nat.mod_eq_of_lt (by simpa using h)]
    omega
theorem val_inj : ∀ (l m : Bytes), l.length = m.length → val l = val m → l = m := by
  intro l
  induction l with
  | nil => intro m h _; cases m <;> simp at h; rfl
  | cons x l ih =>
    intro m h hv
    cases m with
    | nil => simp at h
    | cons y m =>
      have hl : l.length = m.length := by simpa using h
      rw [val_cons, val_cons, hl] at hv
      have h1 := val_lt l
      have h2 := val_lt m
      rw [hl] at h1
      have hx : x.toNat = y.toNat := by
        have e1 : (x.toNat * 256 ^ m.length + val l) / 256 ^ m.length = x.toNat := by
          rw [Nat.mul_comm, Nat.mul_add_div (Nat.pow_pos (by omega)), Nat.div_eq_of_lt h1]; rfl
        have e2 : (y.toNat * 256 ^ m.length + val m) / 256 ^ m.length = y.toNat := by
          rw [Nat.mul_comm, Nat.mul_add_div (Nat.pow_pos (by omega)), Nat.div_eq_of_lt h2]; rfl
        rw [← e1, ← e2, hv]
      rw [hx] at hv
      rw [UInt8.toNat_inj.1 hx, ih m hl (by omega)]
end Go.Proofs.Ytlblgopfdadalaa
namespace Go.Proofs.Ytlblgopfdadalaa
set_option linter.unusedVariables false
set_option linter.unusedSimpArgs false
set_option linter.unnecessarySimpa false
set_option maxRecDepth 100000
open Go.RowKit
/-- all blocks but those are as they were -/
structure Chg (S : List Nat) (w w' : World) : Prop where
  os : w'.os = w.os
  tape : w'.tape = w.tape
  output : w'.output = w.output
  size : w.heap.size ≤ w'.heap.size
  block : ∀ k, k < w.heap.size → k ∉ S → w'.heap[k]? = w.heap[k]?
theorem Ext.chg {w w' : World} (h : Ext w w') (S : List Nat) : Chg S w w' := ⟨h.os, h.tape, h.output, h.size, fun k hk _ => h.block k hk⟩
theorem Chg.refl (S : List Nat) (w : World) : Chg S w w := ⟨rfl, rfl, rfl, Nat.le_refl _, fun _ _ _ => rfl⟩
theorem Chg.trans {S : List Nat} {a b c : World} (h : Chg S a b) (k : Chg S b c) : Chg S a c :=
  ⟨k.os.trans h.os, k.tape.trans h.tape, k.output.trans h.output, Nat.le_trans h.size k.size, fun i hi hn => (k.block i (Nat.lt_of_lt_of_le hi h.size) hn).trans (h.block i hi hn)⟩
theorem Chg.mono {S T : List Nat} {a b : World} (h : Chg S a b) (hs : ∀ k, k ∈ S → k ∈ T) : Chg T a b :=
  ⟨h.os, h.tape, h.output, h.size, fun i hi hn => h.block i hi fun hm => hn (hs i hm)⟩
theorem Chg.ext {S : List Nat} {a b : World} (h : Chg S a b) (hs : ∀ k, k ∈ S → a.heap.size ≤ k) : Ext a b :=
  ⟨h.os, h.tape, h.output, h.size, fun i hi => h.block i hi fun hm => by have := hs i hm; omega⟩
/-- new blocks that are written later are no loss -/
theorem Ext.then_ {S : List Nat} {a b c : World} (h : Ext a b) (k : Chg S b c) (hs : ∀ i, i ∈ S → a.heap.size ≤ i) : Ext a c :=
  ⟨k.os.trans h.os, k.tape.trans h.tape, k.output.trans h.output, Nat.le_trans h.size k.size, fun i hi => (k.block i (Nat.lt_of_lt_of_le hi h.size) fun hm => by have := hs i hm; omega).trans (h.block i hi)⟩
theorem Chg.drew {S : List Nat} {a b : World} (h : Chg S a b) : Chg S a b.drew := ⟨h.os, h.tape, h.output, h.size, h.block⟩
theorem Chg.alloc {S : List Nat} {a b : World} (h : Chg S a b) (o : Obj) : Chg S a (b.alloc o) := h.trans (((Ext.rfl' b).alloc' o).chg S)
theorem Chg.set {S : List Nat} {a b : World} (h : Chg S a b) {p : Addr} (hp : p.block ∈ S) (u : Value) : Chg S a (b.setCell p u) :=
  h.trans ⟨rfl, rfl, rfl, by simp [World.setCell], fun k _ hn => by
    have hne : k ≠ p.block := fun e => hn (e ▸ hp)
    exact Below.heap_setCell b p u k hne⟩
theorem Chg.cell {S : List Nat} {w w' : World} (h : Chg S w w') {p : Addr} (hp : p.block < w.heap.size) (hn : p.block ∉ S) : w'.cell? p = w.cell? p :=
  World.cell?_of_block (h.block _ hp hn)
theorem Blk.chg {S : List Nat} {w w' : World} {g : Nat} {t : TypeId} {cs : Array Value} (h : Blk w g t cs) (hc : Chg S w w') (hn : g ∉ S) : Blk w' g t cs := (hc.block g h.lt hn).trans h
theorem Reads.chg {S : List Nat} {w w' : World} {size n : Nat} {A : Option Addr} {xs : List Value} (h : Reads w w.heap.size size A n xs) (hc : Chg S w w') (hn : ∀ ad, A = some ad → 0 < n → ad.block ∉ S) : Reads w' w'.heap.size size A n xs :=
  ⟨h.1, fun h0 => by
    obtain ⟨ad, rfl, hb, hcell⟩ := h.2 h0
    exact ⟨ad, rfl, Nat.lt_of_lt_of_le hb hc.size, fun j u hu => (hc.cell (by rw [block_of_add]; exact hb) (by rw [block_of_add]; exact hn ad rfl h0)).trans (hcell j u hu)⟩⟩
/-- the value, a slice, reads nothing in those blocks -/
def Off (v : Value) (S : List Nat) : Prop := ∀ ad n c, v = .slice (some ad) n c → 0 < n → ad.block ∉ S
theorem Off.at_ {A : Option Addr} {n c : Nat} {S : List Nat} (h : Off (.slice A n c) S) : ∀ ad, A = some ad → 0 < n → ad.block ∉ S := by
  rintro ad rfl
  exact h ad n c rfl
theorem Off.slice {A : Option Addr} {n c n' c' : Nat} {S : List Nat} (h : Off (.slice A n c) S) (hn : n' ≤ n) : Off (.slice A n' c') S := by
  rintro ad m k he h0
  simp only [Value.slice.injEq] at he
  obtain ⟨rfl, rfl, rfl⟩ := he
  exact h ad n c rfl (by omega)
theorem Off.of_own {v : Value} {S : List Nat} (h : ∀ k, v.ownBlock = some k → k ∉ S) : Off v S := by
  rintro ad n c rfl _
  exact h ad.block rfl
theorem Off.nil (S : List Nat) (c : Nat) : Off (.slice none 0 c) S := by rintro ad n c he; cases he
theorem Bs.chg {S : List Nat} {w w' : World} {v : Value} {l : Bytes} (h : Bs w v l) (hc : Chg S w w') (hn : Off v S) : Bs w' v l := by
  obtain ⟨A, c, rfl, h1, h2, h3⟩ := h
  exact ⟨A, c, rfl, h1, h2, h3.chg hc hn.at_⟩
/-- a value of new memory -/
theorem Nw.off {w w' : World} {v : Value} {l : Bytes} (h : Nw w w' v l) {S : List Nat} (hs : ∀ k, k ∈ S → k < w.heap.size) : Off v S := by
  refine .of_own fun k hk hm => ?_
  have h1 := h.lt k hk
  have h2 := hs k hm
  omega
theorem Nw.chg {S : List Nat} {w0 w w' : World} {v : Value} {l : Bytes} (h : Nw w0 w v l) (hc : Chg S w w') (hn : ∀ k, v.ownBlock = some k → k ∉ S) : Nw w0 w' v l := by
  refine ⟨h.1, ?_⟩
  rcases h.2 with h2 | ⟨g, cap, cur, hv, hg, hh, r⟩
  · exact .inl h2
  · refine .inr ⟨g, cap, cur, hv, hg, ?_, r⟩
    have hlt : g < w.heap.size := by
      rcases Nat.lt_or_ge g w.heap.size with h | h
      · exact h
      · rw [Array.getElem?_eq_none h] at hh; cases hh
    rw [hc.block g hlt (hn g (by rw [hv]; rfl))]
    exact hh
/-- what was there ahead does not lie in new blocks -/
theorem Bs.off {w : World} {v : Value} {l : Bytes} (h : Bs w v l) {S : List Nat} (hs : ∀ k, k ∈ S → w.heap.size ≤ k) : Off v S := by
  rintro ad n c rfl h0 hm
  obtain ⟨hn, _, _, hr⟩ := h.inv
  obtain ⟨ad', he, hb, _⟩ := hr.2 h0
  obtain rfl : ad = ad' := Option.some.inj he
  have := hs _ hm
  omega
theorem Chg.then_new {S T : List Nat} {a b c : World} (h : Chg S a b) (k : Chg T b c) (hs : ∀ i, i ∈ T → a.heap.size ≤ i) : Chg S a c :=
  ⟨k.os.trans h.os, k.tape.trans h.tape, k.output.trans h.output, Nat.le_trans h.size k.size, fun i hi hn => (k.block i (Nat.lt_of_lt_of_le hi h.size) fun hm => by have := hs i hm; omega).trans (h.block i hi hn)⟩
end Go.Proofs.Ytlblgopfdadalaa
