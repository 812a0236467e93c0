/- A part of the proof of 'MsgAll'. -/
import Derived.Test.YtlblgopfdadalaaM8
import Derived.Test.YtlblgopfdadalaaM7
namespace Go.Proofs.Ytlblgopfdadalaa
set_option linter.unusedVariables false
set_option linter.unusedSimpArgs false
set_option linter.unnecessarySimpa false
set_option maxRecDepth 100000
open Go.RowKit
set_option maxHeartbeats 1600000 in
theorem rnum_b (T : TypeId) (g : Nat) (v : Value) (s : Rdr) (n : Nat) (w : World) (h : RdAt T w g v s) (hn : n ≤ 8) :
    Calls Try.prog 32 #[.pointer (some ⟨g, 0, none⟩), .int .i64 n] w fun e w' => e = .returned (.int .u64 (pnum n s).1) ∧ RdTo T w w' g v (pnum n s).2 := by
  obtain ⟨b, e⟩ := s
  have c0 : w.cell? ⟨g, 0, none⟩ = some v := (h.blk.cell 0).trans rfl
  have c1 : w.cell? ⟨g, 1, none⟩ = some (.int .i64 e) := (h.blk.cell 1).trans rfl
  have f0 := h.blk.frozen 0
  have f1 := h.blk.frozen 1
  have hlb := h.len
  simp only at hlb
  by_cases he : e = 0
  · subst he
    obtain ⟨A, c, rfl, k1, k2, -⟩ := id h.bs
    rcases otake_cases b n hn with ⟨hs, e1⟩ | ⟨hs, e1⟩
    · have ht := rtake_b _ b n w (by omega) (by omega) h.bs
      rw [e1] at ht
      have HT := hide ht
      clear ht e1
      rw [pnum_short n b hs]
      go_enter Try.func32, Try.ntmps32
      go_wp2_with (go_at_call 77; refine HT.out.mono ?_; rintro e w1 ⟨rfl, rfl⟩)
      go_ret
      exact ⟨rfl, _, ⟨h.blk.set_ 1 _, h.bs.chg ((Chg.refl [g] _).set (by simp) _) h.off, h.off, h.len⟩, (Chg.refl [g] _).set (by simp) _, fun S hS => hS⟩
    · have ht := rtake_b _ b n w (by omega) (by omega) h.bs
      rw [e1] at ht
      rw [pnum_ok n b hs]
      clear e1
      generalize val (b.take n) = V at *
      have HT := hide ht
      clear ht
      obtain ⟨i0, hi0, hz0, hz1, hz2⟩ := info_parts ti5
      have hsl := fun W => run_sl_l (P := Try.prog) (A := A) (n := b.length) (c := c) (kl := .i64) Try.underlying24 hi0 hz1 n rfl hs W
      go_enter Try.func32, Try.ntmps32
      go_wp2_with (go_at_call 77; refine HT.out.mono ?_; rintro e w1 ⟨rfl, rfl⟩)
      go_ret
      have hof : Off (.slice (cutA 1 A c n) (b.length - n) (c - n)) [g] := off_cut h.off (by omega)
      exact ⟨rfl, _, ⟨(h.blk.set_ 1 _).set_ 0 _, (h.bs.rest hs).chg (((Chg.refl [g] _).set (by simp) _).set (by simp) _) hof, hof, by simp; omega⟩, ((Chg.refl [g] _).set (by simp) _).set (by simp) _, fun S hS => off_cut hS (by omega)⟩
  · rw [pnum_bad n _ he]
    go_enter Try.func32, Try.ntmps32
    go_wp2
    go_ret
    exact ⟨rfl, RdTo.same h⟩
set_option maxHeartbeats 1600000 in
theorem rbytes_b (T : TypeId) (g : Nat) (v : Value) (s : Rdr) (w : World) (h : RdAt T w g v s) :
    Calls Try.prog 35 #[.pointer (some ⟨g, 0, none⟩)] w fun e w' => ∃ m A c, Hid (m = (ptext s).1) ∧ e = .returned (.slice A m.length c) ∧ Nw w w' (.slice A m.length c) m ∧ RdTo T w w' g v (ptext s).2 := by
  obtain ⟨b, e⟩ := s
  have c0 : w.cell? ⟨g, 0, none⟩ = some v := (h.blk.cell 0).trans rfl
  have c1 : w.cell? ⟨g, 1, none⟩ = some (.int .i64 e) := (h.blk.cell 1).trans rfl
  have hlb := h.len
  simp only at hlb
  by_cases he : e = 0
  · subst he
    obtain ⟨A, c, rfl, k1, k2, -⟩ := id h.bs
    obtain ⟨q, hq, hqb⟩ := otakeBytes_n b
    have HT := hide (rtakeBytes_b _ b w hlb h.bs)
    have HP : Hid (ptext (b, 0) = ((otakeBytes b).1, (b.drop (otakeBytes b).2.1.toNat, (otakeBytes b).2.2))) := by unfold Hid; exact if_pos rfl
    obtain ⟨i0, hi0, hz0, hz1, hz2⟩ := info_parts ti5
    have hsl := fun W => run_sl_l (P := Try.prog) (A := A) (n := b.length) (c := c) (kl := .i64) Try.underlying24 hi0 hz1 q rfl hqb W
    have HQ := hide hq
    clear hq
    go_enter Try.func35, Try.ntmps35
    go_wp2_with fail
    refine HT.out.mono ?_
    rintro e w1 ⟨m, Am, cm, n, k, hm, rfl, hz, hx1⟩
    have hnq : n = q := by rw [← HQ.out, ← hm.out]
    subst hnq
    have hB := h.blk.ext hx1
    have d0 : w1.cell? ⟨g, 0, none⟩ = some (.slice A b.length c) := (hB.cell 0).trans rfl
    have d1 : w1.cell? ⟨g, 1, none⟩ = some (.int .i64 0) := (hB.cell 1).trans rfl
    have f0 := hB.frozen 0
    have f1 := hB.frozen 1
    have hgl := h.blk.lt
    have hzo : Off (.slice Am m.length cm) [g] := hz.off (by simp; exact hgl)
    go_wp2
    go_ret
    have hof : Off (.slice (cutA 1 A c q) (b.length - q) (c - q)) [g] := off_cut h.off (by omega)
    rw [HP.out, ← hm.out]
    refine ⟨m, Am, cm, hide rfl, rfl, hz.chg (((Chg.refl [g] _).set (by simp) _).set (by simp) _) (fun k hk hk2 => ?_), _, ⟨(hB.set_ 0 _).set_ 1 _, ((h.bs.ext hx1).rest hqb).chg (((Chg.refl [g] _).set (by simp) _).set (by simp) _) hof, hof, by simp; omega⟩, ((hx1.chg [g]).set (by simp) _).set (by simp) _, fun S hS => off_cut hS (by omega)⟩
    have h1 := hz.lt k hk
    simp at hk2
    omega
  · rw [ptext_bad _ he]
    go_enter Try.func35, Try.ntmps35
    go_wp2
    go_ret
    exact ⟨[], none, 0, hide rfl, rfl, World.ownsRow_nil _ _ _ _, RdTo.same h⟩
theorem rfail_b (T : TypeId) (g : Nat) (v : Value) (s : Rdr) (w : World) (h : RdAt T w g v s) :
    Calls Try.prog 33 #[.pointer (some ⟨g, 0, none⟩), .int .i64 2] w fun e w' => e = .returned (.tuple #[]) ∧ RdTo T w w' g v (pform true s) := by
  obtain ⟨b, e⟩ := s
  have c1 : w.cell? ⟨g, 1, none⟩ = some (.int .i64 e) := (h.blk.cell 1).trans rfl
  have f1 := h.blk.frozen 1
  by_cases he : e = 0
  · subst he
    rw [pform_yes]
    go_enter Try.func33, Try.ntmps33
    go_wp2
    go_end0
    exact ⟨rfl, _, ⟨h.blk.set_ 1 _, h.bs.chg ((Chg.refl [g] _).set (by simp) _) h.off, h.off, h.len⟩, (Chg.refl [g] _).set (by simp) _, fun S hS => hS⟩
  · rw [pform_bad _ _ he]
    go_enter Try.func33, Try.ntmps33
    go_wp2
    go_end0
    exact ⟨rfl, RdTo.same h⟩
theorem rover_b (T : TypeId) (g : Nat) (v : Value) (s : Rdr) (w : World) (h : RdAt T w g v s) :
    Calls Try.prog 37 #[.pointer (some ⟨g, 0, none⟩)] w fun e w' => e = .returned (.int .i64 (pform (decide (0 < s.1.length)) s).2) ∧ RdTo T w w' g v (pform (decide (0 < s.1.length)) s) := by
  obtain ⟨b, e⟩ := s
  obtain ⟨A, c, rfl, -, -, -⟩ := id h.bs
  have c0 : w.cell? ⟨g, 0, none⟩ = some (.slice A b.length c) := (h.blk.cell 0).trans rfl
  have c1 : w.cell? ⟨g, 1, none⟩ = some (.int .i64 e) := (h.blk.cell 1).trans rfl
  have f1 := h.blk.frozen 1
  by_cases he : e = 0
  · subst he
    by_cases hb : 0 < b.length
    · rw [decide_eq_true hb, pform_yes]
      have hb2 : (0 : Int) < b.length := by omega
      go_enter Try.func37, Try.ntmps37
      go_wp2
      go_ret
      exact ⟨rfl, _, ⟨h.blk.set_ 1 _, h.bs.chg ((Chg.refl [g] _).set (by simp) _) h.off, h.off, h.len⟩, (Chg.refl [g] _).set (by simp) _, fun S hS => hS⟩
    · rw [decide_eq_false hb, pform_no]
      have hb2 : ¬ (0 : Int) < b.length := by omega
      go_enter Try.func37, Try.ntmps37
      go_wp2
      go_ret
      exact ⟨rfl, RdTo.same h⟩
  · rw [pform_bad _ _ he]
    go_enter Try.func37, Try.ntmps37
    go_wp2
    go_ret
    exact ⟨rfl, RdTo.same h⟩
end Go.Proofs.Ytlblgopfdadalaa
namespace Go.Proofs.Ytlblgopfdadalaa
set_option linter.unusedVariables false
set_option linter.unusedSimpArgs false
set_option linter.unnecessarySimpa false
set_option maxRecDepth 100000
open Go.RowKit
/-- what a function returns that makes bytes -/
def RetBs (w w' : World) (e : Ending) (l : Bytes) : Prop := ∃ (m : Bytes) (A : Option Addr) (c : Nat), Hid (m = l) ∧ e = .returned (.slice A m.length c) ∧ Bs w' (.slice A m.length c) m ∧ Ext w w'
theorem conv_bytes (W : World) (l : Bytes) (hl : l.length ≤ 140737488355328) : ∃ A c W', (convert 9 24 (str l)).run Try.prog W = .ok (.slice A l.length c) W' ∧ Bs W' (.slice A l.length c) l ∧ Ext W W' := by
  have hge := grownCap_ge W l.length 0 5
  have hle := grownCap_le_maxLen W l.length 0 5 (by simp [maxLen]; omega)
  have h := run_bytes_of_string (P := Try.prog) W 9 24 5 ⟨l.toArray⟩ Try.underlying9 Try.underlying24 Try.underlying5
  have hs : (ByteArray.mk l.toArray).size = l.length := by simp [ByteArray.size]
  rw [hs] at h
  have hx : Ext W (W.drew.alloc (.cells (bytesRow ⟨l.toArray⟩ (grownCap W l.length 0 5)) 5 ((bytesRow ⟨l.toArray⟩ (grownCap W l.length 0 5)).size, (bytesRow ⟨l.toArray⟩ (grownCap W l.length 0 5)).size + 1))) := ((Ext.rfl' W).drew').alloc' _
  refine ⟨_, _, _, h, ?_, hx⟩
  refine Bs.mk' rfl hge hle ⟨by simp, fun hn => ⟨_, rfl, ?_, fun j u hu => ?_⟩⟩
  · show W.heap.size < (W.heap.push _).size
    simp
  · have hadd : (⟨W.heap.size, 0, none⟩ : Addr).add j = ⟨W.heap.size, j, none⟩ := by unfold Addr.add; split <;> simp_all
    rw [hadd, cell_of_row (W.drew.alloc _) W.heap.size j _ _ _ (heap_alloc_new W.drew _)]
    have hj : j < (bv l).length := (List.getElem?_eq_some_iff.1 hu).1
    unfold bytesRow
    rw [Array.getElem?_append_left (by simpa using hj)]
    simpa [bv] using hu
theorem be1 (x : UInt8) : be 1 (x.toNat : Int).toNat = [x] := by
  simp [be]
theorem u8_of (k : Int) (h0 : 0 ≤ k) (h1 : k ≤ 255) : ∃ x : UInt8, k = x.toNat := by
  refine ⟨UInt8.ofNat k.toNat, ?_⟩
  have : (UInt8.ofNat k.toNat).toNat = k.toNat := by simp; omega
  rw [this]; omega
theorem wrap8 (x : UInt8) : IntKind.u8.wrap (x.toNat : Int) = x.toNat := by
  have : x.toNat < 256 := x.toNat_lt
  simp [IntKind.wrap, IntKind.bits, IntKind.signed]
  omega
theorem cbytes_eq (x y : UInt8) (seq : Int) (name url : Bytes) (till : Int) (m1 : Bytes) (h : m1 = oput [x, y] seq 8) :
    oput (oputBytes (oputBytes m1 name) url) till 8 = cbytes ⟨x.toNat, y.toNat, seq, name, url, till⟩ := by
  subst h
  simp only [cbytes, oput, oputBytes, be1]
  simp
set_option maxHeartbeats 1600000 in
theorem cput_b (c : Cm) (h : c.ok) (hn : c.name.length ≤ 1000) (hu : c.url.length ≤ 1000) (w : World) :
    Calls Try.prog 41 #[cv c] w fun e w' => RetBs w w' e (cput c) := by
  obtain ⟨kind, client, seq, name, url, till⟩ := c
  obtain ⟨k0, k1, c0, c1, s0, s1, -, -, t0, t1⟩ := h
  simp only at k0 k1 c0 c1 s0 s1 t0 t1 hn hu
  by_cases hk : kind = 0
  · subst hk
    go_enter Try.func41, Try.ntmps41
    go_wp2
    go_ret
    exact ⟨[], none, 0, hide rfl, rfl, Bs.nil _, (Ext.rfl' w).alloc' _⟩
  · obtain ⟨x, rfl⟩ := u8_of kind k0 k1
    obtain ⟨y, rfl⟩ := u8_of client c0 c1
    have e1 := wrap8 x
    have e2 := wrap8 y
    have hk2 : ¬ (x.toNat : Int) = 0 := hk
    clear k0 k1 c0 c1
    have HC : Hid (cput ⟨x.toNat, y.toNat, seq, name, url, till⟩ = cbytes ⟨x.toNat, y.toNat, seq, name, url, till⟩) := by unfold Hid cput; exact if_neg hk
    clear hk
    go_enter Try.func41, Try.ntmps41
    obtain ⟨gb, hgb⟩ : ∃ gb, gb = w.heap.size := ⟨_, rfl⟩
    go_wp2_with fail
    rw [← hgb]
    have hB := Bs.lit (w := w.alloc (.cells (ccells ⟨x.toNat, y.toNat, seq, name, url, till⟩) 28)) 5 [x, y] (gb + 1) (by simp [hgb]) (by simp [maxLen]) (0, 0)
    refine (put_b _ [x, y] seq 8 _ (by omega) (by omega) (by simp) hB).mono ?_
    rintro e W1 ⟨m1, A1, cc1, hm1, rfl, hz1n, hx1⟩
    have hz1 := hz1n.bs
    subst hgb
    have hL : Blk W1 w.heap.size 28 (ccells ⟨x.toNat, y.toNat, seq, name, url, till⟩) := by
      exact ((Blk.new w _ _).alloc _).ext hx1
    have hxw : Ext w W1 := (((Ext.rfl' w).alloc' _).alloc' _).trans' hx1
    have hlm : m1.length ≤ 10 := by rw [hm1.out]; simp [oput, be_length]
    clear hx1 hB hz1n
    go_wp2
    refine Rg.regionT Try.checked.mixed 29 12 (by kernel_rfl) [
      (fun x_ _ => x_ = .slice A1 m1.length cc1),
      (fun x_ _ => x_ = .pointer (some ⟨w.heap.size, 3, none⟩)),
      (fun x_ _ => x_ = str name),
      (fun v W => Bs W v name),
      (fun v W => Bs W v (oputBytes m1 name)),
      (fun x_ _ => x_ = .pointer (some ⟨w.heap.size, 4, none⟩)),
      (fun x_ _ => x_ = str url),
      (fun v W => Bs W v url),
      (fun v W => Bs W v (oputBytes (oputBytes m1 name) url)),
      (fun x_ _ => x_ = .pointer (some ⟨w.heap.size, 5, none⟩)),
      (fun x_ _ => x_ = .int .u64 till),
      (fun v W => Bs W v (oput (oputBytes (oputBytes m1 name) url) till 8))] (fun W => Ext W1 W) Ext rfl rfl rfl
      ?st ((Ext.rfl' W1).drew') ?ob ?en
    case st => exact ⟨fun _ _ _ h _ => h, fun _ _ _ h _ => h, fun _ _ _ h _ => h, fun _ _ _ h hx => h.ext hx, fun _ _ _ h hx => h.ext hx, fun _ _ _ h _ => h, fun _ _ _ h _ => h, fun _ _ _ h hx => h.ext hx, fun _ _ _ h hx => h.ext hx, fun _ _ _ h _ => h, fun _ _ _ h _ => h, fun _ _ _ h hx => h.ext hx, trivial⟩
    case ob =>
      refine ⟨Rg.at_run [3] rfl ?_, ?_⟩
      · intro ρ W hR ⟨q3, _⟩
        replace q3 : ρ 3 = .slice A1 m1.length cc1 := q3
        refine ⟨rfl, ?_⟩
        exact Rg.run_ok (v := .slice A1 m1.length cc1) (by simp [execOp, Rg.ev, go_sem, q3]) ⟨rfl, hR, Ext.rfl' _⟩
      refine ⟨Rg.at_run [1] rfl ?_, ?_⟩
      · intro ρ W hR ⟨q1, _⟩
        replace q1 : ρ 1 = .pointer (some ⟨w.heap.size, 0, none⟩) := q1
        refine ⟨rfl, ?_⟩
        exact Rg.run_ok (v := .pointer (some ⟨w.heap.size, 3, none⟩)) (by simp [execOp, Rg.ev, go_sem, q1]) ⟨rfl, hR, Ext.rfl' _⟩
      refine ⟨Rg.at_run [18] rfl ?_, ?_⟩
      · intro ρ W hR ⟨q18, _⟩
        replace q18 : ρ 18 = .pointer (some ⟨w.heap.size, 3, none⟩) := q18
        refine ⟨rfl, ?_⟩
        have hc : W.cell? ⟨w.heap.size, 3, none⟩ = some (str name) := ((hL.ext hR).cell 3).trans rfl
        exact Rg.run_ok (v := str name) (by simp [execOp, Rg.ev, go_sem, q18, hc]) ⟨rfl, hR, Ext.rfl' _⟩
      refine ⟨Rg.at_run [19] rfl ?_, ?_⟩
      · intro ρ W hR ⟨q19, _⟩
        replace q19 : ρ 19 = str name := q19
        refine ⟨rfl, ?_⟩
        obtain ⟨Ac, cc, W2, hrun, hbs, hxx⟩ := conv_bytes W name (by omega)
        exact Rg.run_ok (v := .slice Ac name.length cc) (by simp only [execOp, Rg.ev, Sem.run_bind, Sem.run_pure, Result.andThen_ok, q19, hrun]) ⟨hbs, hR.trans' hxx, hxx⟩
      refine ⟨Rg.at_run [17, 20] rfl ?_, ?_⟩
      · intro ρ W hR ⟨q17, q20, _⟩
        replace q17 : ρ 17 = .slice A1 m1.length cc1 := q17
        replace q20 : (fun v W => Bs W v name) (ρ 20) W := q20
        refine ⟨rfl, ?_⟩
        refine Rg.run_enter (by simp [execOp, Rg.ev, go_sem, q17]; exact ⟨⟨rfl, rfl⟩, rfl⟩) ?_
        refine (putBytes_b _ _ m1 name _ (by omega) (hz1.ext hR) q20).mono ?_
        rintro e w2 ⟨m, Am, cm, hm, rfl, hz, hxx⟩
        have hm' := hm.out
        subst hm'
        exact ⟨_, rfl, hz.bs, hR.trans' hxx, hxx⟩
      refine ⟨Rg.at_run [1] rfl ?_, ?_⟩
      · intro ρ W hR ⟨q1, _⟩
        replace q1 : ρ 1 = .pointer (some ⟨w.heap.size, 0, none⟩) := q1
        refine ⟨rfl, ?_⟩
        exact Rg.run_ok (v := .pointer (some ⟨w.heap.size, 4, none⟩)) (by simp [execOp, Rg.ev, go_sem, q1]) ⟨rfl, hR, Ext.rfl' _⟩
      refine ⟨Rg.at_run [22] rfl ?_, ?_⟩
      · intro ρ W hR ⟨q22, _⟩
        replace q22 : ρ 22 = .pointer (some ⟨w.heap.size, 4, none⟩) := q22
        refine ⟨rfl, ?_⟩
        have hc : W.cell? ⟨w.heap.size, 4, none⟩ = some (str url) := ((hL.ext hR).cell 4).trans rfl
        exact Rg.run_ok (v := str url) (by simp [execOp, Rg.ev, go_sem, q22, hc]) ⟨rfl, hR, Ext.rfl' _⟩
      refine ⟨Rg.at_run [23] rfl ?_, ?_⟩
      · intro ρ W hR ⟨q23, _⟩
        replace q23 : ρ 23 = str url := q23
        refine ⟨rfl, ?_⟩
        obtain ⟨Ac, cc, W2, hrun, hbs, hxx⟩ := conv_bytes W url (by omega)
        exact Rg.run_ok (v := .slice Ac url.length cc) (by simp only [execOp, Rg.ev, Sem.run_bind, Sem.run_pure, Result.andThen_ok, q23, hrun]) ⟨hbs, hR.trans' hxx, hxx⟩
      refine ⟨Rg.at_run [21, 24] rfl ?_, ?_⟩
      · intro ρ W hR ⟨q21, q24, _⟩
        replace q21 : (fun v W => Bs W v (oputBytes m1 name)) (ρ 21) W := q21
        replace q24 : (fun v W => Bs W v url) (ρ 24) W := q24
        refine ⟨rfl, ?_⟩
        refine Rg.run_enter (by simp [execOp, Rg.ev, go_sem, ]; exact ⟨⟨rfl, rfl⟩, rfl⟩) ?_
        refine (putBytes_b _ _ (oputBytes m1 name) url _ (by rw [oputBytes_length]; omega) q21 q24).mono ?_
        rintro e w2 ⟨m, Am, cm, hm, rfl, hz, hxx⟩
        have hm' := hm.out
        subst hm'
        exact ⟨_, rfl, hz.bs, hR.trans' hxx, hxx⟩
      refine ⟨Rg.at_run [1] rfl ?_, ?_⟩
      · intro ρ W hR ⟨q1, _⟩
        replace q1 : ρ 1 = .pointer (some ⟨w.heap.size, 0, none⟩) := q1
        refine ⟨rfl, ?_⟩
        exact Rg.run_ok (v := .pointer (some ⟨w.heap.size, 5, none⟩)) (by simp [execOp, Rg.ev, go_sem, q1]) ⟨rfl, hR, Ext.rfl' _⟩
      refine ⟨Rg.at_run [26] rfl ?_, ?_⟩
      · intro ρ W hR ⟨q26, _⟩
        replace q26 : ρ 26 = .pointer (some ⟨w.heap.size, 5, none⟩) := q26
        refine ⟨rfl, ?_⟩
        have hc : W.cell? ⟨w.heap.size, 5, none⟩ = some (.int .u64 till) := ((hL.ext hR).cell 5).trans rfl
        exact Rg.run_ok (v := .int .u64 till) (by simp [execOp, Rg.ev, go_sem, q26, hc]) ⟨rfl, hR, Ext.rfl' _⟩
      refine ⟨Rg.at_run [25, 27] rfl ?_, ?_⟩
      · intro ρ W hR ⟨q25, q27, _⟩
        replace q25 : (fun v W => Bs W v (oputBytes (oputBytes m1 name) url)) (ρ 25) W := q25
        replace q27 : ρ 27 = .int .u64 till := q27
        refine ⟨rfl, ?_⟩
        refine Rg.run_enter (by simp [execOp, Rg.ev, go_sem, q27]; exact ⟨⟨rfl, rfl⟩, rfl⟩) ?_
        refine (put_b _ (oputBytes (oputBytes m1 name) url) till 8 _ (by omega) (by omega) (by rw [oputBytes_length, oputBytes_length]; omega) q25).mono ?_
        rintro e w2 ⟨m, Am, cm, hm, rfl, hz, hxx⟩
        have hm' := hm.out
        subst hm'
        exact ⟨_, rfl, hz.bs, hR.trans' hxx, hxx⟩
      trivial
    case en =>
      intro tm W hR hsz hk
      rw [Rg.fin_eq (ds := [17, 18, 19, 20, 21, 22, 23, 24, 25, 26, 27, 28]) rfl rfl rfl hsz hk]
      have k17 : tm.getD 17 undef = .slice A1 m1.length cc1 := hk 17
      have k18 : tm.getD 18 undef = .pointer (some ⟨w.heap.size, 3, none⟩) := hk 18
      have k19 : tm.getD 19 undef = str name := hk 19
      have k20 : (fun v W => Bs W v name) (tm.getD 20 undef) W := hk 20
      have k21 : (fun v W => Bs W v (oputBytes m1 name)) (tm.getD 21 undef) W := hk 21
      have k22 : tm.getD 22 undef = .pointer (some ⟨w.heap.size, 4, none⟩) := hk 22
      have k23 : tm.getD 23 undef = str url := hk 23
      have k24 : (fun v W => Bs W v url) (tm.getD 24 undef) W := hk 24
      have k25 : (fun v W => Bs W v (oputBytes (oputBytes m1 name) url)) (tm.getD 25 undef) W := hk 25
      have k26 : tm.getD 26 undef = .pointer (some ⟨w.heap.size, 5, none⟩) := hk 26
      have k27 : tm.getD 27 undef = .int .u64 till := hk 27
      have k28 : (fun v W => Bs W v (oput (oputBytes (oputBytes m1 name) url) till 8)) (tm.getD 28 undef) W := hk 28
      clear hk hsz
      simp only [Rg.putAll, List.setIfInBounds_toArray, List.set_cons_zero, List.set_cons_succ, k17, k18, k19, k22, k23, k26, k27]
      clear k17
      clear k18
      clear k19
      generalize tm.getD 20 undef = u20 at *
      generalize tm.getD 21 undef = u21 at *
      clear k22
      clear k23
      generalize tm.getD 24 undef = u24 at *
      generalize tm.getD 25 undef = u25 at *
      clear k26
      clear k27
      generalize tm.getD 28 undef = u28 at *
      go_wp2
      go_ret
      have hq := congrArg List.length (cbytes_eq x y seq name url till m1 hm1.out)
      rw [HC.out, ← cbytes_eq x y seq name url till m1 hm1.out]
      obtain ⟨A, c, rfl, h1, h2, h3⟩ := id k28
      exact ⟨_, A, c, hide rfl, rfl, k28, hxw.trans' hR⟩
end Go.Proofs.Ytlblgopfdadalaa
