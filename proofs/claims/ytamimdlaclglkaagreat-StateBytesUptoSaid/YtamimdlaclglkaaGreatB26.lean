/- A part of the proof of 'StateBytes'. -/
import Derived.Test.YtamimdlaclglkaaGreatB5
import Derived.Test.YtamimdlaclglkaaGreatB2
import Derived.Test.YtamimdlaclglkaaGreatB3
import Derived.Test.YtamimdlaclglkaaGreatB4
import Derived.StillTailTactics
import Derived.Test.YtamimdlaclglkaaGreatB8
import Derived.Test.YtamimdlaclglkaaGreatB12
namespace Go.Proofs.YtamimdlaclglkaaGreat
set_option linter.unusedVariables false
set_option linter.unusedSimpArgs false
set_option linter.unnecessarySimpa false
set_option maxRecDepth 100000
open Go.RowKit
def txB (t : Bytes) : Bytes := be 4 t.length ++ t
def lnB (l : Ln) : Bytes := txB l.name ++ txB l.url ++ be 8 l.till.toNat ++ be 1 (if l.made then 1 else 0)
def dnB (d : Dn) : Bytes := be 8 d.seq.toNat ++ be 1 d.an.err.toNat ++ txB d.an.text
def seH (x : Se) : Bytes := be 1 x.client.toNat ++ be 8 x.high.toNat ++ be 1 x.done.length
def seB (x : Se) : Bytes := seH x ++ (x.done.map dnB).flatten
def stH (s : St) : Bytes := be 8 s.now.toNat ++ be 8 s.count.toNat ++ be 2 s.links.length
def stB (s : St) : Bytes := stH s ++ (s.links.map lnB).flatten ++ be 2 s.sess.length ++ (s.sess.map seB).flatten
theorem txB_len (t : Bytes) : (txB t).length = 4 + t.length := by simp [txB, be_length]
theorem lnB_len (l : Ln) : (lnB l).length = 17 + l.name.length + l.url.length := by simp [lnB, txB_len, be_length]; omega
theorem dnB_len (d : Dn) : (dnB d).length = 13 + d.an.text.length := by simp [dnB, txB_len, be_length]; omega
theorem bflat_take {α : Type} (f : α → Bytes) (l : List α) (k : Nat) : ((l.take k).map f).flatten.length ≤ (l.map f).flatten.length := by
  conv => rhs; rw [← List.take_append_drop k l, List.map_append, List.flatten_append, List.length_append]
  omega
theorem bflat_snoc {α : Type} (f : α → Bytes) {l : List α} {k : Nat} {x : α} (h : l[k]? = some x) : ((l.take (k + 1)).map f).flatten = ((l.take k).map f).flatten ++ f x := by
  rw [List.take_add_one, h]; simp
theorem bflat_mem {α : Type} (f : α → Bytes) {l : List α} {k : Nat} {x : α} (h : l[k]? = some x) : ((l.take k).map f).flatten.length + (f x).length ≤ (l.map f).flatten.length := by
  have := bflat_take f l (k + 1)
  rw [bflat_snoc f h, List.length_append] at this
  exact this
theorem stB_len (s : St) : (stB s).length = 20 + (s.links.map lnB).flatten.length + (s.sess.map seB).flatten.length := by simp [stB, stH, be_length]; omega
theorem seB_len (x : Se) : (seB x).length = 10 + (x.done.map dnB).flatten.length := by unfold seB seH; simp only [List.length_append, be_length]
/-- what a state needs so that its bytes are its own -/
structure PutOk (s : St) : Prop where
  len : (stB s).length ≤ 100000000000000
  client : ∀ x ∈ s.sess, 0 ≤ x.client
  err : ∀ x ∈ s.sess, ∀ d ∈ x.done, 0 ≤ d.an.err
theorem sPut1 (x : Value) (b : Bytes) (v : Int) (w : World) (hv : 0 ≤ v ∧ v ≤ 18446744073709551615) (hl : b.length ≤ 100000000000000) (hr : Bs w x b) :
    Calls Tryz.prog 49 #[x, .int .u64 v, .int .i64 1] w fun e w' => RetNw w w' e (b ++ be 1 v.toNat) := (put_b x b v 1 w hv (by omega) (by omega) hr).mono fun _ _ h => h.eq (by simp [oput])
theorem sPut2 (x : Value) (b : Bytes) (v : Int) (w : World) (hv : 0 ≤ v ∧ v ≤ 18446744073709551615) (hl : b.length ≤ 100000000000000) (hr : Bs w x b) :
    Calls Tryz.prog 49 #[x, .int .u64 v, .int .i64 2] w fun e w' => RetNw w w' e (b ++ be 2 v.toNat) := (put_b x b v 2 w hv (by omega) (by omega) hr).mono fun _ _ h => h.eq (by simp [oput])
theorem sPut8 (x : Value) (b : Bytes) (v : Int) (w : World) (hv : 0 ≤ v ∧ v ≤ 18446744073709551615) (hl : b.length ≤ 100000000000000) (hr : Bs w x b) :
    Calls Tryz.prog 49 #[x, .int .u64 v, .int .i64 8] w fun e w' => RetNw w w' e (b ++ be 8 v.toNat) := (put_b x b v 8 w hv (by omega) (by omega) hr).mono fun _ _ h => h.eq (by simp [oput])
theorem sPutB (x y : Value) (b t : Bytes) (w : World) (hl : b.length + t.length ≤ 100000000000000) (hx : Bs w x b) (hy : Bs w y t) :
    Calls Tryz.prog 50 #[x, y] w fun e w' => RetNw w w' e (b ++ txB t) := (putBytes_b x y b t w (by omega) hx hy).mono fun _ _ h => h.eq (by simp [oputBytes, txB])
end Go.Proofs.YtamimdlaclglkaaGreat
namespace Go.Proofs.YtamimdlaclglkaaGreat
set_option linter.unusedVariables false
set_option linter.unusedSimpArgs false
set_option linter.unnecessarySimpa false
set_option maxRecDepth 100000
open Go.RowKit
/-- a reader that lies in block g; what is left to be read is the value v -/
structure RdAt (T : TypeId) (w : World) (g : Nat) (v : Value) (s : Rdr) : Prop where
  blk : Blk w g T #[v, .int .i64 s.2]
  bs : Bs w v s.1
  off : Off v [g]
  len : s.1.length ≤ 140737488350000
def RdTo (T : TypeId) (w w' : World) (g : Nat) (v : Value) (s : Rdr) : Prop := ∃ v', RdAt T w' g v' s ∧ Chg [g] w w' ∧ ∀ S, Off v S → Off v' S
theorem RdAt.ext {T : TypeId} {w w' : World} {g : Nat} {v : Value} {s : Rdr} (h : RdAt T w g v s) (hx : Ext w w') : RdAt T w' g v s := ⟨h.blk.ext hx, h.bs.ext hx, h.off, h.len⟩
theorem RdAt.chg {S : List Nat} {T : TypeId} {w w' : World} {g : Nat} {v : Value} {s : Rdr} (h : RdAt T w g v s) (hx : Chg S w w') (hg : g ∉ S) (hv : Off v S) : RdAt T w' g v s :=
  ⟨h.blk.chg hx hg, h.bs.chg hx hv, h.off, h.len⟩
theorem RdTo.same {T : TypeId} {w : World} {g : Nat} {v : Value} {s : Rdr} (h : RdAt T w g v s) : RdTo T w w g v s := ⟨v, h, Chg.refl _ _, fun _ hS => hS⟩
theorem off_cut {A : Option Addr} {c l n c' m : Nat} {S : List Nat} (h : Off (.slice A m c) S) (hn : 0 < n → 0 < m) : Off (.slice (cutA 1 A c l) n c') S := by
  rintro ad k c2 he h0
  simp only [Value.slice.injEq] at he
  obtain ⟨e1, rfl, rfl⟩ := he
  unfold cutA at e1
  rcases A with _ | a
  · split at e1 <;> simp at e1
  · have hb : ad.block = a.block := by
      split at e1
      · rw [Option.some.inj e1]
      · simp only [Option.map_some, Option.some.injEq] at e1
        rw [← e1, block_of_add]
    rw [hb]
    exact h a m c rfl (hn h0)
theorem pnum_ok (n : Nat) (b : Bytes) (h : n ≤ b.length) : pnum n (b, 0) = (((val (b.take n) : Nat) : Int), (b.drop n, 0)) := by
  unfold pnum; rw [if_pos rfl, if_neg (by simp only; omega)]
theorem otakeBytes_n (b : Bytes) : ∃ q : Nat, (otakeBytes b).2.1 = q ∧ q ≤ b.length := by
  unfold otakeBytes
  split
  · exact ⟨0, rfl, Nat.zero_le _⟩
  · exact ⟨_, rfl, by omega⟩
end Go.Proofs.YtamimdlaclglkaaGreat
namespace Go.Proofs.YtamimdlaclglkaaGreat
set_option linter.unusedVariables false
set_option linter.unusedSimpArgs false
set_option linter.unnecessarySimpa false
set_option maxRecDepth 100000
open Go.RowKit
set_option maxHeartbeats 1600000 in
theorem rnum_b (T : TypeId) (g : Nat) (v : Value) (s : Rdr) (n : Nat) (w : World) (h : RdAt T w g v s) (hn : n ≤ 8) :
    Calls Tryz.prog 44 #[.pointer (some ⟨g, 0, none⟩), .int .i64 n] w fun e w' => e = .returned (.int .u64 (pnum n s).1) ∧ RdTo T w w' g v (pnum n s).2 := by
  obtain ⟨b, e⟩ := s
  have c0 : w.cell? ⟨g, 0, none⟩ = some v := (h.blk.cell 0).trans rfl
  have c1 : w.cell? ⟨g, 1, none⟩ = some (.int .i64 e) := (h.blk.cell 1).trans rfl
  have f0 := h.blk.frozen 0
  have f1 := h.blk.frozen 1
  have hlb := h.len
  simp only at hlb
  by_cases he : e = 0
  · subst he
    obtain ⟨A, c, rfl, k1, k2, -⟩ := id h.bs
    rcases otake_cases b n hn with ⟨hs, e1⟩ | ⟨hs, e1⟩
    · have ht := rtake_b _ b n w (by omega) (by omega) h.bs
      rw [e1] at ht
      have HT := hide ht
      clear ht e1
      rw [pnum_short n b hs]
      go_enter Tryz.func44, Tryz.ntmps44
      go_wp2_with (go_at_call 85; refine HT.out.mono ?_; rintro e w1 ⟨rfl, rfl⟩)
      go_ret
      exact ⟨rfl, _, ⟨h.blk.set_ 1 _, h.bs.chg ((Chg.refl [g] _).set (by simp) _) h.off, h.off, h.len⟩, (Chg.refl [g] _).set (by simp) _, fun S hS => hS⟩
    · have ht := rtake_b _ b n w (by omega) (by omega) h.bs
      rw [e1] at ht
      rw [pnum_ok n b hs]
      clear e1
      generalize val (b.take n) = V at *
      have HT := hide ht
      clear ht
      obtain ⟨i0, hi0, hz0, hz1, hz2⟩ := info_parts ti5
      have hsl := fun W => run_sl_l (P := Tryz.prog) (A := A) (n := b.length) (c := c) (kl := .i64) Tryz.underlying22 hi0 hz1 n rfl hs W
      go_enter Tryz.func44, Tryz.ntmps44
      go_wp2_with (go_at_call 85; refine HT.out.mono ?_; rintro e w1 ⟨rfl, rfl⟩)
      go_ret
      have hof : Off (.slice (cutA 1 A c n) (b.length - n) (c - n)) [g] := off_cut h.off (by omega)
      exact ⟨rfl, _, ⟨(h.blk.set_ 1 _).set_ 0 _, (h.bs.rest hs).chg (((Chg.refl [g] _).set (by simp) _).set (by simp) _) hof, hof, by simp; omega⟩, ((Chg.refl [g] _).set (by simp) _).set (by simp) _, fun S hS => off_cut hS (by omega)⟩
  · rw [pnum_bad n _ he]
    go_enter Tryz.func44, Tryz.ntmps44
    go_wp2
    go_ret
    exact ⟨rfl, RdTo.same h⟩
set_option maxHeartbeats 1600000 in
theorem rbytes_b (T : TypeId) (g : Nat) (v : Value) (s : Rdr) (w : World) (h : RdAt T w g v s) :
    Calls Tryz.prog 86 #[.pointer (some ⟨g, 0, none⟩)] w fun e w' => ∃ m A c, Hid (m = (ptext s).1) ∧ e = .returned (.slice A m.length c) ∧ Nw w w' (.slice A m.length c) m ∧ RdTo T w w' g v (ptext s).2 := by
  obtain ⟨b, e⟩ := s
  have c0 : w.cell? ⟨g, 0, none⟩ = some v := (h.blk.cell 0).trans rfl
  have c1 : w.cell? ⟨g, 1, none⟩ = some (.int .i64 e) := (h.blk.cell 1).trans rfl
  have hlb := h.len
  simp only at hlb
  by_cases he : e = 0
  · subst he
    obtain ⟨A, c, rfl, k1, k2, -⟩ := id h.bs
    obtain ⟨q, hq, hqb⟩ := otakeBytes_n b
    have HT := hide (rtakeBytes_b _ b w hlb h.bs)
    have HP : Hid (ptext (b, 0) = ((otakeBytes b).1, (b.drop (otakeBytes b).2.1.toNat, (otakeBytes b).2.2))) := by unfold Hid; exact if_pos rfl
    obtain ⟨i0, hi0, hz0, hz1, hz2⟩ := info_parts ti5
    have hsl := fun W => run_sl_l (P := Tryz.prog) (A := A) (n := b.length) (c := c) (kl := .i64) Tryz.underlying22 hi0 hz1 q rfl hqb W
    have HQ := hide hq
    clear hq
    go_enter Tryz.func86, Tryz.ntmps86
    go_wp2_with fail
    refine HT.out.mono ?_
    rintro e w1 ⟨m, Am, cm, n, k, hm, rfl, hz, hx1⟩
    have hnq : n = q := by rw [← HQ.out, ← hm.out]
    subst hnq
    have hB := h.blk.ext hx1
    have d0 : w1.cell? ⟨g, 0, none⟩ = some (.slice A b.length c) := (hB.cell 0).trans rfl
    have d1 : w1.cell? ⟨g, 1, none⟩ = some (.int .i64 0) := (hB.cell 1).trans rfl
    have f0 := hB.frozen 0
    have f1 := hB.frozen 1
    have hgl := h.blk.lt
    have hzo : Off (.slice Am m.length cm) [g] := hz.off (by simp; exact hgl)
    go_wp2
    go_ret
    have hof : Off (.slice (cutA 1 A c q) (b.length - q) (c - q)) [g] := off_cut h.off (by omega)
    rw [HP.out, ← hm.out]
    refine ⟨m, Am, cm, hide rfl, rfl, hz.chg (((Chg.refl [g] _).set (by simp) _).set (by simp) _) (fun k hk hk2 => ?_), _, ⟨(hB.set_ 0 _).set_ 1 _, ((h.bs.ext hx1).rest hqb).chg (((Chg.refl [g] _).set (by simp) _).set (by simp) _) hof, hof, by simp; omega⟩, ((hx1.chg [g]).set (by simp) _).set (by simp) _, fun S hS => off_cut hS (by omega)⟩
    have h1 := hz.lt k hk
    simp at hk2
    omega
  · rw [ptext_bad _ he]
    go_enter Tryz.func86, Tryz.ntmps86
    go_wp2
    go_ret
    exact ⟨[], none, 0, hide rfl, rfl, World.ownsRow_nil _ _ _ _, RdTo.same h⟩
theorem rfail_b (T : TypeId) (g : Nat) (v : Value) (s : Rdr) (w : World) (h : RdAt T w g v s) :
    Calls Tryz.prog 48 #[.pointer (some ⟨g, 0, none⟩), .int .i64 2] w fun e w' => e = .returned (.tuple #[]) ∧ RdTo T w w' g v (pform true s) := by
  obtain ⟨b, e⟩ := s
  have c1 : w.cell? ⟨g, 1, none⟩ = some (.int .i64 e) := (h.blk.cell 1).trans rfl
  have f1 := h.blk.frozen 1
  by_cases he : e = 0
  · subst he
    rw [pform_yes]
    go_enter Tryz.func48, Tryz.ntmps48
    go_wp2
    go_end0
    exact ⟨rfl, _, ⟨h.blk.set_ 1 _, h.bs.chg ((Chg.refl [g] _).set (by simp) _) h.off, h.off, h.len⟩, (Chg.refl [g] _).set (by simp) _, fun S hS => hS⟩
  · rw [pform_bad _ _ he]
    go_enter Tryz.func48, Tryz.ntmps48
    go_wp2
    go_end0
    exact ⟨rfl, RdTo.same h⟩
theorem rover_b (T : TypeId) (g : Nat) (v : Value) (s : Rdr) (w : World) (h : RdAt T w g v s) :
    Calls Tryz.prog 47 #[.pointer (some ⟨g, 0, none⟩)] w fun e w' => e = .returned (.int .i64 (pform (decide (0 < s.1.length)) s).2) ∧ RdTo T w w' g v (pform (decide (0 < s.1.length)) s) := by
  obtain ⟨b, e⟩ := s
  obtain ⟨A, c, rfl, -, -, -⟩ := id h.bs
  have c0 : w.cell? ⟨g, 0, none⟩ = some (.slice A b.length c) := (h.blk.cell 0).trans rfl
  have c1 : w.cell? ⟨g, 1, none⟩ = some (.int .i64 e) := (h.blk.cell 1).trans rfl
  have f1 := h.blk.frozen 1
  by_cases he : e = 0
  · subst he
    by_cases hb : 0 < b.length
    · rw [decide_eq_true hb, pform_yes]
      have hb2 : (0 : Int) < b.length := by omega
      go_enter Tryz.func47, Tryz.ntmps47
      go_wp2
      go_ret
      exact ⟨rfl, _, ⟨h.blk.set_ 1 _, h.bs.chg ((Chg.refl [g] _).set (by simp) _) h.off, h.off, h.len⟩, (Chg.refl [g] _).set (by simp) _, fun S hS => hS⟩
    · rw [decide_eq_false hb, pform_no]
      have hb2 : ¬ (0 : Int) < b.length := by omega
      go_enter Tryz.func47, Tryz.ntmps47
      go_wp2
      go_ret
      exact ⟨rfl, RdTo.same h⟩
  · rw [pform_bad _ _ he]
    go_enter Tryz.func47, Tryz.ntmps47
    go_wp2
    go_ret
    exact ⟨rfl, RdTo.same h⟩
end Go.Proofs.YtamimdlaclglkaaGreat
namespace Go.Proofs.YtamimdlaclglkaaGreat
set_option linter.unusedVariables false
set_option linter.unusedSimpArgs false
set_option linter.unnecessarySimpa false
set_option maxRecDepth 100000
open Go.RowKit
/-- a state's reader lies in block g: what is left to be read is the value v, the state so far has the cells M -/
structure SAt (w : World) (g : Nat) (v : Value) (s : Rdr) (M : List Value) : Prop where
  blk : Blk w g 77 (v :: .int .i64 s.2 :: M).toArray
  bs : Bs w v s.1
  off : Off v [g]
  len : s.1.length ≤ 140737488350000
def STo (w w' : World) (g : Nat) (v : Value) (s : Rdr) (M : List Value) : Prop := ∃ v', SAt w' g v' s M ∧ Chg [g] w w' ∧ ∀ S, Off v S → Off v' S
theorem SAt.ext {w w' : World} {g : Nat} {v : Value} {s : Rdr} {M : List Value} (h : SAt w g v s M) (hx : Ext w w') : SAt w' g v s M := ⟨h.blk.ext hx, h.bs.ext hx, h.off, h.len⟩
theorem STo.same {w : World} {g : Nat} {v : Value} {s : Rdr} {M : List Value} (h : SAt w g v s M) : STo w w g v s M := ⟨v, h, Chg.refl _ _, fun _ hS => hS⟩
theorem SAt.err {w : World} {g : Nat} {v : Value} {b : Bytes} {e : Int} {M : List Value} (h : SAt w g v (b, e) M) (k : Int) : SAt (w.setCell ⟨g, 1, none⟩ (.int .i64 k)) g v (b, k) M :=
  ⟨h.blk.set_ 1 _, h.bs.chg ((Chg.refl [g] _).set (by simp) _) h.off, h.off, h.len⟩
theorem SAt.set {w : World} {g : Nat} {v : Value} {s : Rdr} {M : List Value} (h : SAt w g v s M) (j : Nat) (u : Value) : SAt (w.setCell ⟨g, j + 2, none⟩ u) g v s (M.set j u) :=
  ⟨by have := h.blk.set_ (j + 2) u; simpa using this, h.bs.chg ((Chg.refl [g] _).set (by simp) _) h.off, h.off, h.len⟩
theorem SAt.cell {w : World} {g : Nat} {v : Value} {s : Rdr} {M : List Value} (h : SAt w g v s M) (j : Nat) : w.cell? ⟨g, j + 2, none⟩ = M[j]? := by
  rw [h.blk.cell]; simp
theorem SAt.c0 {w : World} {g : Nat} {v : Value} {s : Rdr} {M : List Value} (h : SAt w g v s M) : w.cell? ⟨g, 0, none⟩ = some v := by
  rw [h.blk.cell]; simp
theorem SAt.c1 {w : World} {g : Nat} {v : Value} {s : Rdr} {M : List Value} (h : SAt w g v s M) : w.cell? ⟨g, 1, none⟩ = some (.int .i64 s.2) := by
  rw [h.blk.cell]; simp
set_option maxHeartbeats 1600000 in
theorem snum_b (g : Nat) (v : Value) (s : Rdr) (M : List Value) (n : Nat) (hi : Int) (w : World) (h : SAt w g v s M) (hn : n ≤ 8) :
    Calls Tryz.prog 39 #[.pointer (some ⟨g, 0, none⟩), .int .i64 n, .int .u64 hi] w fun e w' =>
      e = .returned (.int .u64 (pnum n s).1) ∧ STo w w' g v (pform (decide (hi < (pnum n s).1)) (pnum n s).2) M := by
  obtain ⟨b, e⟩ := s
  have c0 : w.cell? ⟨g, 0, none⟩ = some v := h.c0
  have c1 : w.cell? ⟨g, 1, none⟩ = some (.int .i64 e) := h.c1
  have f0 := h.blk.frozen 0
  have f1 := h.blk.frozen 1
  have hlb := h.len
  simp only at hlb
  by_cases he : e = 0
  · subst he
    obtain ⟨A, c, rfl, k1, k2, -⟩ := id h.bs
    rcases otake_cases b n hn with ⟨hs, e1⟩ | ⟨hs, e1⟩
    · have ht := take_b _ b n w (by omega) (by omega) h.bs
      rw [e1] at ht
      have HT := hide ht
      clear ht e1
      rw [pnum_short n b hs]
      rw [pform_bad _ _ (by show (3 : Int) ≠ 0; decide)]
      go_enter Tryz.func39, Tryz.ntmps39
      go_wp2_with (go_at_call 75; refine HT.out.mono ?_; rintro e w1 ⟨rfl, rfl⟩)
      go_ret
      exact ⟨rfl, _, h.err 3, (Chg.refl [g] _).set (by simp) _, fun S hS => hS⟩
    · have ht := take_b _ b n w (by omega) (by omega) h.bs
      rw [e1] at ht
      rw [pnum_ok n b hs]
      clear e1
      generalize val (b.take n) = V at *
      have HT := hide ht
      clear ht
      obtain ⟨i0, hi0, hz0, hz1, hz2⟩ := info_parts ti5
      have hsl := fun W => run_sl_l (P := Tryz.prog) (A := A) (n := b.length) (c := c) (kl := .i64) Tryz.underlying22 hi0 hz1 n rfl hs W
      have HOF : ∀ S, Off (.slice A b.length c) S → Off (.slice (cutA 1 A c n) (b.length - n) (c - n)) S := fun S hS => off_cut hS (by omega)
      have hof : Off (.slice (cutA 1 A c n) (b.length - n) (c - n)) [g] := HOF _ h.off
      have hM : SAt ((w.setCell ⟨g, 1, none⟩ (.int .i64 0)).setCell ⟨g, 0, none⟩ (.slice (cutA 1 A c n) (b.length - n) (c - n))) g (.slice (cutA 1 A c n) (b.length - n) (c - n)) (b.drop n, 0) M :=
        ⟨(h.blk.set_ 1 _).set_ 0 _, (h.bs.rest hs).chg (((Chg.refl [g] _).set (by simp) _).set (by simp) _) hof, hof, by simp; omega⟩
      have hch : Chg [g] w ((w.setCell ⟨g, 1, none⟩ (.int .i64 0)).setCell ⟨g, 0, none⟩ (.slice (cutA 1 A c n) (b.length - n) (c - n))) := ((Chg.refl [g] _).set (by simp) _).set (by simp) _
      by_cases hc : hi < V
      · have e2 : decide (hi < (V : Int)) = true := decide_eq_true hc
        simp only
        rw [e2, pform_yes]
        clear e2
        go_enter Tryz.func39, Tryz.ntmps39
        go_wp2_with (go_at_call 75; refine HT.out.mono ?_; rintro e w1 ⟨rfl, rfl⟩)
        go_ret
        exact ⟨rfl, _, hM.err 2, hch.set (by simp) _, HOF⟩
      · have e2 : decide (hi < (V : Int)) = false := decide_eq_false hc
        simp only
        rw [e2, pform_no]
        clear e2
        go_enter Tryz.func39, Tryz.ntmps39
        go_wp2_with (go_at_call 75; refine HT.out.mono ?_; rintro e w1 ⟨rfl, rfl⟩)
        go_ret
        exact ⟨rfl, _, hM, hch, HOF⟩
  · rw [pnum_bad n _ he, pform_bad _ _ he]
    go_enter Tryz.func39, Tryz.ntmps39
    go_wp2
    go_ret
    exact ⟨rfl, STo.same h⟩
set_option maxHeartbeats 1600000 in
theorem stext_b (g : Nat) (v : Value) (s : Rdr) (M : List Value) (w : World) (h : SAt w g v s M) :
    Calls Tryz.prog 76 #[.pointer (some ⟨g, 0, none⟩)] w fun e w' => e = .returned (str (ptext s).1) ∧ STo w w' g v (ptext s).2 M := by
  obtain ⟨b, e⟩ := s
  have c0 : w.cell? ⟨g, 0, none⟩ = some v := h.c0
  have c1 : w.cell? ⟨g, 1, none⟩ = some (.int .i64 e) := h.c1
  have hlb := h.len
  simp only at hlb
  by_cases he : e = 0
  · subst he
    obtain ⟨A, c, rfl, k1, k2, -⟩ := id h.bs
    obtain ⟨q, hq, hqb⟩ := otakeBytes_n b
    have HT := hide (takeBytes_b _ b w hlb h.bs)
    have HP : Hid (ptext (b, 0) = ((otakeBytes b).1, (b.drop (otakeBytes b).2.1.toNat, (otakeBytes b).2.2))) := by unfold Hid; exact if_pos rfl
    obtain ⟨i0, hi0, hz0, hz1, hz2⟩ := info_parts ti5
    have hsl := fun W => run_sl_l (P := Tryz.prog) (A := A) (n := b.length) (c := c) (kl := .i64) Tryz.underlying22 hi0 hz1 q rfl hqb W
    have HQ := hide hq
    clear hq
    go_enter Tryz.func76, Tryz.ntmps76
    go_wp2_with fail
    refine HT.out.mono ?_
    rintro e w1 ⟨m, Am, cm, n, k, hm, rfl, hz, hx1⟩
    have hnq : n = q := by rw [← HQ.out, ← hm.out]
    subst hnq
    have hB := h.ext hx1
    have d0 : w1.cell? ⟨g, 0, none⟩ = some (.slice A b.length c) := hB.c0
    have d1 : w1.cell? ⟨g, 1, none⟩ = some (.int .i64 0) := hB.c1
    have f0 := hB.blk.frozen 0
    have f1 := hB.blk.frozen 1
    have hgl := h.blk.lt
    have hzo : Off (.slice Am m.length cm) [g] := hz.off (by simp; exact hgl)
    have hzw : Nw w ((w1.setCell ⟨g, 0, none⟩ (.slice (cutA 1 A c q) (b.length - q) (c - q))).setCell ⟨g, 1, none⟩ (.int .i64 k)) (.slice Am m.length cm) m := hz.chg (((Chg.refl [g] _).set (by simp) _).set (by simp) _) (fun k hk hk2 => by
      have h1 := hz.lt k hk
      simp at hk2
      omega)
    have hstr := run_str (P := Tryz.prog) hzw.bs Tryz.underlying22 Tryz.underlying5 Tryz.underlying9
    go_wp2
    go_ret
    have hof : Off (.slice (cutA 1 A c q) (b.length - q) (c - q)) [g] := off_cut h.off (by omega)
    rw [HP.out, ← hm.out]
    exact ⟨rfl, _, ⟨(hB.blk.set_ 0 _).set_ 1 _, ((h.bs.ext hx1).rest hqb).chg (((Chg.refl [g] _).set (by simp) _).set (by simp) _) hof, hof, by simp; omega⟩, ((hx1.chg [g]).set (by simp) _).set (by simp) _, fun S hS => off_cut hS (by omega)⟩
  · rw [ptext_bad _ he]
    go_enter Tryz.func76, Tryz.ntmps76
    go_wp2
    go_ret
    exact ⟨rfl, STo.same h⟩
end Go.Proofs.YtamimdlaclglkaaGreat
namespace Go.Proofs.YtamimdlaclglkaaGreat
set_option linter.unusedVariables false
set_option linter.unusedSimpArgs false
set_option linter.unnecessarySimpa false
set_option maxRecDepth 100000
open Go.RowKit
theorem conv_bytes (W : World) (l : Bytes) (hl : l.length ≤ 140737488355328) : ∃ A c W', (convert 9 22 (str l)).run Tryz.prog W = .ok (.slice A l.length c) W' ∧ Bs W' (.slice A l.length c) l ∧ Ext W W' := by
  have hge := grownCap_ge W l.length 0 5
  have hle := grownCap_le_maxLen W l.length 0 5 (by simp [maxLen]; omega)
  have h := run_bytes_of_string (P := Tryz.prog) W 9 22 5 ⟨l.toArray⟩ Tryz.underlying9 Tryz.underlying22 Tryz.underlying5
  have hs : (ByteArray.mk l.toArray).size = l.length := by simp [ByteArray.size]
  rw [hs] at h
  have hx : Ext W (W.drew.alloc (.cells (bytesRow ⟨l.toArray⟩ (grownCap W l.length 0 5)) 5 ((bytesRow ⟨l.toArray⟩ (grownCap W l.length 0 5)).size, (bytesRow ⟨l.toArray⟩ (grownCap W l.length 0 5)).size + 1))) := ((Ext.rfl' W).drew').alloc' _
  refine ⟨_, _, _, h, ?_, hx⟩
  refine Bs.mk' rfl hge hle ⟨by simp, fun hn => ⟨_, rfl, ?_, fun j u hu => ?_⟩⟩
  · show W.heap.size < (W.heap.push _).size
    simp
  · have hadd : (⟨W.heap.size, 0, none⟩ : Addr).add j = ⟨W.heap.size, j, none⟩ := by unfold Addr.add; split <;> simp_all
    rw [hadd, cell_of_row (W.drew.alloc _) W.heap.size j _ _ _ (heap_alloc_new W.drew _)]
    have hj : j < (bv l).length := (List.getElem?_eq_some_iff.1 hu).1
    unfold bytesRow
    rw [Array.getElem?_append_left (by simpa using hj)]
    simpa [bv] using hu
end Go.Proofs.YtamimdlaclglkaaGreat
namespace Go.Proofs.YtamimdlaclglkaaGreat
set_option linter.unusedVariables false
set_option linter.unusedSimpArgs false
set_option linter.unnecessarySimpa false
set_option maxRecDepth 100000
open Go.RowKit
theorem pnum_rng (n : Nat) (s : Rdr) : 0 ≤ (pnum n s).1 ∧ (pnum n s).1 < 256 ^ n := by
  unfold pnum
  split
  · split
    · exact ⟨Int.le_refl _, by show (0 : Int) < 256 ^ n; exact_mod_cast Nat.pow_pos (n := n) (by decide : 0 < 256)⟩
    · rename_i h
      have hlt := val_lt (s.1.take n)
      have hln : (s.1.take n).length = n := by simp; omega
      rw [hln] at hlt
      exact ⟨by simp, by show ((val (s.1.take n) : Nat) : Int) < 256 ^ n; exact_mod_cast hlt⟩
  · exact ⟨Int.le_refl _, by show (0 : Int) < 256 ^ n; exact_mod_cast Nat.pow_pos (n := n) (by decide : 0 < 256)⟩
/-- where a reader and what is read of it stand -/
structure AllAt (T : TypeId) (w0 W : World) (g gc : Nat) (v' : Value) (s : Rdr) (c : Array Value) : Prop where
  rd : RdAt T W g v' s
  of : Off v' [gc]
  bl : Blk W gc 37 c
  cg : Chg [g] w0 W
theorem AllAt.num {T : TypeId} {w0 W W2 : World} {g gc : Nat} {v' : Value} {s s2 : Rdr} {c : Array Value} (h : AllAt T w0 W g gc v' s c) (hne : g ≠ gc) (r : RdTo T W W2 g v' s2) : ∃ v'', AllAt T w0 W2 g gc v'' s2 c := by
  obtain ⟨v'', hr, hc, ho⟩ := r
  exact ⟨v'', hr, ho _ h.of, h.bl.chg hc (by simp; omega), h.cg.trans hc⟩
theorem AllAt.set {T : TypeId} {w0 W : World} {g gc : Nat} {v' : Value} {s : Rdr} {c : Array Value} (h : AllAt T w0 W g gc v' s c) (hne : g ≠ gc) (hgc : w0.heap.size ≤ gc) (i : Nat) (u : Value) :
    AllAt T w0 (W.setCell ⟨gc, i, none⟩ u) g gc v' s (c.setIfInBounds i u) :=
  ⟨h.rd.chg ((Chg.refl [gc] W).set (by simp) u) (by simp; omega) h.of, h.of, h.bl.set_ i u, h.cg.then_new ((Chg.refl [gc] W).set (by simp) u) (by simp; omega)⟩
theorem AllAt.err {T : TypeId} {w0 W : World} {g gc : Nat} {v' : Value} {b : Bytes} {e : Int} {c : Array Value} (h : AllAt T w0 W g gc v' (b, e) c) (hne : g ≠ gc) (k : Int) :
    AllAt T w0 (W.setCell ⟨g, 1, none⟩ (.int .i64 k)) g gc v' (b, k) c :=
  ⟨⟨h.rd.blk.set_ 1 _, h.rd.bs.chg ((Chg.refl [g] W).set (by simp) _) h.rd.off, h.rd.off, h.rd.len⟩, h.of, h.bl.chg ((Chg.refl [g] W).set (by simp) _) (by simp; omega), h.cg.set (by simp) _⟩
theorem AllAt.drew {T : TypeId} {w0 W : World} {g gc : Nat} {v' : Value} {s : Rdr} {c : Array Value} (h : AllAt T w0 W g gc v' s c) : AllAt T w0 W.drew g gc v' s c :=
  ⟨⟨h.rd.blk, h.rd.bs, h.rd.off, h.rd.len⟩, h.of, h.bl, h.cg.drew⟩
end Go.Proofs.YtamimdlaclglkaaGreat
