/- cmd.Put and shortcutref17.PutCmd. -/
import Derived.Test.YtccpbchcfgggmaaCmd2
import Derived.Test.YtccpbchcfgggmaaRgT
namespace Go.Proofs.Ytccpbchcfgggmaa
set_option linter.unusedVariables false
set_option linter.unusedSimpArgs false
set_option linter.unnecessarySimpa false
set_option maxRecDepth 100000
open Go.RowKit
/-- what a function returns that makes bytes -/
def RetBs (w w' : World) (e : Ending) (l : Bytes) : Prop := ∃ (m : Bytes) (A : Option Addr) (c : Nat), Hid (m = l) ∧ e = .returned (.slice A m.length c) ∧ Bs w' (.slice A m.length c) m ∧ Ext w w'
theorem conv_bytes (W : World) (l : Bytes) (hl : l.length ≤ 140737488355328) : ∃ A c W', (convert 9 25 (str l)).run Try.prog W = .ok (.slice A l.length c) W' ∧ Bs W' (.slice A l.length c) l ∧ Ext W W' := by
  have hge := grownCap_ge W l.length 0 5
  have hle := grownCap_le_maxLen W l.length 0 5 (by simp [maxLen]; omega)
  have h := run_bytes_of_string (P := Try.prog) W 9 25 5 ⟨l.toArray⟩ Try.underlying9 Try.underlying25 Try.underlying5
  have hs : (ByteArray.mk l.toArray).size = l.length := by simp [ByteArray.size]
  rw [hs] at h
  have hx : Ext W (W.drew.alloc (.cells (bytesRow ⟨l.toArray⟩ (grownCap W l.length 0 5)) 5 ((bytesRow ⟨l.toArray⟩ (grownCap W l.length 0 5)).size, (bytesRow ⟨l.toArray⟩ (grownCap W l.length 0 5)).size + 1))) := ((Ext.rfl' W).drew').alloc' _
  refine ⟨_, _, _, h, ?_, hx⟩
  refine Bs.mk' rfl hge hle ⟨by simp, fun hn => ⟨_, rfl, ?_, fun j u hu => ?_⟩⟩
  · show W.heap.size < (W.heap.push _).size
    simp
  · have hadd : (⟨W.heap.size, 0, none⟩ : Addr).add j = ⟨W.heap.size, j, none⟩ := by unfold Addr.add; split <;> simp_all
    rw [hadd, cell_of_row (W.drew.alloc _) W.heap.size j _ _ _ (heap_alloc_new W.drew _)]
    have hj : j < (bv l).length := (List.getElem?_eq_some_iff.1 hu).1
    unfold bytesRow
    rw [Array.getElem?_append_left (by simpa using hj)]
    simpa [bv] using hu
theorem be1 (x : UInt8) : be 1 (x.toNat : Int).toNat = [x] := by
  simp [be]
theorem u8_of (k : Int) (h0 : 0 ≤ k) (h1 : k ≤ 255) : ∃ x : UInt8, k = x.toNat := by
  refine ⟨UInt8.ofNat k.toNat, ?_⟩
  have : (UInt8.ofNat k.toNat).toNat = k.toNat := by simp; omega
  rw [this]; omega
theorem wrap8 (x : UInt8) : IntKind.u8.wrap (x.toNat : Int) = x.toNat := by
  have : x.toNat < 256 := x.toNat_lt
  simp [IntKind.wrap, IntKind.bits, IntKind.signed]
  omega
theorem cbytes_eq (x y : UInt8) (seq : Int) (name url : Bytes) (till : Int) (m1 : Bytes) (h : m1 = oput [x, y] seq 8) :
    oput (oputBytes (oputBytes m1 name) url) till 8 = cbytes ⟨x.toNat, y.toNat, seq, name, url, till⟩ := by
  subst h
  simp only [cbytes, oput, oputBytes, be1]
  simp
set_option maxHeartbeats 1600000 in
theorem cput_b (c : Cm) (h : c.ok) (hn : c.name.length ≤ 1000) (hu : c.url.length ≤ 1000) (w : World) :
    Calls Try.prog 16 #[cv c] w fun e w' => RetBs w w' e (cput c) := by
  obtain ⟨kind, client, seq, name, url, till⟩ := c
  obtain ⟨k0, k1, c0, c1, s0, s1, -, -, t0, t1⟩ := h
  simp only at k0 k1 c0 c1 s0 s1 t0 t1 hn hu
  by_cases hk : kind = 0
  · subst hk
    go_enter Try.func16, Try.ntmps16
    go_wp2
    go_ret
    exact ⟨[], none, 0, hide rfl, rfl, Bs.nil _, (Ext.rfl' w).alloc' _⟩
  · obtain ⟨x, rfl⟩ := u8_of kind k0 k1
    obtain ⟨y, rfl⟩ := u8_of client c0 c1
    have e1 := wrap8 x
    have e2 := wrap8 y
    have hk2 : ¬ (x.toNat : Int) = 0 := hk
    clear k0 k1 c0 c1
    have HC : Hid (cput ⟨x.toNat, y.toNat, seq, name, url, till⟩ = cbytes ⟨x.toNat, y.toNat, seq, name, url, till⟩) := by unfold Hid cput; exact if_neg hk
    clear hk
    go_enter Try.func16, Try.ntmps16
    obtain ⟨gb, hgb⟩ : ∃ gb, gb = w.heap.size := ⟨_, rfl⟩
    go_wp2_with fail
    rw [← hgb]
    have hB := Bs.lit (w := w.alloc (.cells (ccells ⟨x.toNat, y.toNat, seq, name, url, till⟩) 24)) 5 [x, y] (gb + 1) (by simp [hgb]) (by simp [maxLen]) (0, 0)
    refine (put_b _ [x, y] seq 8 _ (by omega) (by omega) (by simp) hB).mono ?_
    rintro e W1 ⟨m1, A1, cc1, hm1, rfl, hz1n, hx1⟩
    have hz1 := hz1n.bs
    subst hgb
    have hL : Blk W1 w.heap.size 24 (ccells ⟨x.toNat, y.toNat, seq, name, url, till⟩) := by
      exact ((Blk.new w _ _).alloc _).ext hx1
    have hxw : Ext w W1 := (((Ext.rfl' w).alloc' _).alloc' _).trans' hx1
    have hlm : m1.length ≤ 10 := by rw [hm1.out]; simp [oput, be_length]
    clear hx1 hB hz1n
    go_wp2
    refine Rg.regionT Try.checked.mixed 29 12 (by kernel_rfl) [
      (fun x_ _ => x_ = .slice A1 m1.length cc1),
      (fun x_ _ => x_ = .pointer (some ⟨w.heap.size, 3, none⟩)),
      (fun x_ _ => x_ = str name),
      (fun v W => Bs W v name),
      (fun v W => Bs W v (oputBytes m1 name)),
      (fun x_ _ => x_ = .pointer (some ⟨w.heap.size, 4, none⟩)),
      (fun x_ _ => x_ = str url),
      (fun v W => Bs W v url),
      (fun v W => Bs W v (oputBytes (oputBytes m1 name) url)),
      (fun x_ _ => x_ = .pointer (some ⟨w.heap.size, 5, none⟩)),
      (fun x_ _ => x_ = .int .u64 till),
      (fun v W => Bs W v (oput (oputBytes (oputBytes m1 name) url) till 8))] (fun W => Ext W1 W) Ext rfl rfl rfl
      ?st ((Ext.rfl' W1).drew') ?ob ?en
    case st => exact ⟨fun _ _ _ h _ => h, fun _ _ _ h _ => h, fun _ _ _ h _ => h, fun _ _ _ h hx => h.ext hx, fun _ _ _ h hx => h.ext hx, fun _ _ _ h _ => h, fun _ _ _ h _ => h, fun _ _ _ h hx => h.ext hx, fun _ _ _ h hx => h.ext hx, fun _ _ _ h _ => h, fun _ _ _ h _ => h, fun _ _ _ h hx => h.ext hx, trivial⟩
    case ob =>
      refine ⟨Rg.at_run [3] rfl ?_, ?_⟩
      · intro ρ W hR ⟨q3, _⟩
        replace q3 : ρ 3 = .slice A1 m1.length cc1 := q3
        refine ⟨rfl, ?_⟩
        exact Rg.run_ok (v := .slice A1 m1.length cc1) (by simp [execOp, Rg.ev, go_sem, q3]) ⟨rfl, hR, Ext.rfl' _⟩
      refine ⟨Rg.at_run [1] rfl ?_, ?_⟩
      · intro ρ W hR ⟨q1, _⟩
        replace q1 : ρ 1 = .pointer (some ⟨w.heap.size, 0, none⟩) := q1
        refine ⟨rfl, ?_⟩
        exact Rg.run_ok (v := .pointer (some ⟨w.heap.size, 3, none⟩)) (by simp [execOp, Rg.ev, go_sem, q1]) ⟨rfl, hR, Ext.rfl' _⟩
      refine ⟨Rg.at_run [18] rfl ?_, ?_⟩
      · intro ρ W hR ⟨q18, _⟩
        replace q18 : ρ 18 = .pointer (some ⟨w.heap.size, 3, none⟩) := q18
        refine ⟨rfl, ?_⟩
        have hc : W.cell? ⟨w.heap.size, 3, none⟩ = some (str name) := ((hL.ext hR).cell 3).trans rfl
        exact Rg.run_ok (v := str name) (by simp [execOp, Rg.ev, go_sem, q18, hc]) ⟨rfl, hR, Ext.rfl' _⟩
      refine ⟨Rg.at_run [19] rfl ?_, ?_⟩
      · intro ρ W hR ⟨q19, _⟩
        replace q19 : ρ 19 = str name := q19
        refine ⟨rfl, ?_⟩
        obtain ⟨Ac, cc, W2, hrun, hbs, hxx⟩ := conv_bytes W name (by omega)
        exact Rg.run_ok (v := .slice Ac name.length cc) (by simp only [execOp, Rg.ev, Sem.run_bind, Sem.run_pure, Result.andThen_ok, q19, hrun]) ⟨hbs, hR.trans' hxx, hxx⟩
      refine ⟨Rg.at_run [17, 20] rfl ?_, ?_⟩
      · intro ρ W hR ⟨q17, q20, _⟩
        replace q17 : ρ 17 = .slice A1 m1.length cc1 := q17
        replace q20 : (fun v W => Bs W v name) (ρ 20) W := q20
        refine ⟨rfl, ?_⟩
        refine Rg.run_enter (by simp [execOp, Rg.ev, go_sem, q17]; exact ⟨⟨rfl, rfl⟩, rfl⟩) ?_
        refine (putBytes_b _ _ m1 name _ (by omega) (hz1.ext hR) q20).mono ?_
        rintro e w2 ⟨m, Am, cm, hm, rfl, hz, hxx⟩
        have hm' := hm.out
        subst hm'
        exact ⟨_, rfl, hz.bs, hR.trans' hxx, hxx⟩
      refine ⟨Rg.at_run [1] rfl ?_, ?_⟩
      · intro ρ W hR ⟨q1, _⟩
        replace q1 : ρ 1 = .pointer (some ⟨w.heap.size, 0, none⟩) := q1
        refine ⟨rfl, ?_⟩
        exact Rg.run_ok (v := .pointer (some ⟨w.heap.size, 4, none⟩)) (by simp [execOp, Rg.ev, go_sem, q1]) ⟨rfl, hR, Ext.rfl' _⟩
      refine ⟨Rg.at_run [22] rfl ?_, ?_⟩
      · intro ρ W hR ⟨q22, _⟩
        replace q22 : ρ 22 = .pointer (some ⟨w.heap.size, 4, none⟩) := q22
        refine ⟨rfl, ?_⟩
        have hc : W.cell? ⟨w.heap.size, 4, none⟩ = some (str url) := ((hL.ext hR).cell 4).trans rfl
        exact Rg.run_ok (v := str url) (by simp [execOp, Rg.ev, go_sem, q22, hc]) ⟨rfl, hR, Ext.rfl' _⟩
      refine ⟨Rg.at_run [23] rfl ?_, ?_⟩
      · intro ρ W hR ⟨q23, _⟩
        replace q23 : ρ 23 = str url := q23
        refine ⟨rfl, ?_⟩
        obtain ⟨Ac, cc, W2, hrun, hbs, hxx⟩ := conv_bytes W url (by omega)
        exact Rg.run_ok (v := .slice Ac url.length cc) (by simp only [execOp, Rg.ev, Sem.run_bind, Sem.run_pure, Result.andThen_ok, q23, hrun]) ⟨hbs, hR.trans' hxx, hxx⟩
      refine ⟨Rg.at_run [21, 24] rfl ?_, ?_⟩
      · intro ρ W hR ⟨q21, q24, _⟩
        replace q21 : (fun v W => Bs W v (oputBytes m1 name)) (ρ 21) W := q21
        replace q24 : (fun v W => Bs W v url) (ρ 24) W := q24
        refine ⟨rfl, ?_⟩
        refine Rg.run_enter (by simp [execOp, Rg.ev, go_sem, ]; exact ⟨⟨rfl, rfl⟩, rfl⟩) ?_
        refine (putBytes_b _ _ (oputBytes m1 name) url _ (by rw [oputBytes_length]; omega) q21 q24).mono ?_
        rintro e w2 ⟨m, Am, cm, hm, rfl, hz, hxx⟩
        have hm' := hm.out
        subst hm'
        exact ⟨_, rfl, hz.bs, hR.trans' hxx, hxx⟩
      refine ⟨Rg.at_run [1] rfl ?_, ?_⟩
      · intro ρ W hR ⟨q1, _⟩
        replace q1 : ρ 1 = .pointer (some ⟨w.heap.size, 0, none⟩) := q1
        refine ⟨rfl, ?_⟩
        exact Rg.run_ok (v := .pointer (some ⟨w.heap.size, 5, none⟩)) (by simp [execOp, Rg.ev, go_sem, q1]) ⟨rfl, hR, Ext.rfl' _⟩
      refine ⟨Rg.at_run [26] rfl ?_, ?_⟩
      · intro ρ W hR ⟨q26, _⟩
        replace q26 : ρ 26 = .pointer (some ⟨w.heap.size, 5, none⟩) := q26
        refine ⟨rfl, ?_⟩
        have hc : W.cell? ⟨w.heap.size, 5, none⟩ = some (.int .u64 till) := ((hL.ext hR).cell 5).trans rfl
        exact Rg.run_ok (v := .int .u64 till) (by simp [execOp, Rg.ev, go_sem, q26, hc]) ⟨rfl, hR, Ext.rfl' _⟩
      refine ⟨Rg.at_run [25, 27] rfl ?_, ?_⟩
      · intro ρ W hR ⟨q25, q27, _⟩
        replace q25 : (fun v W => Bs W v (oputBytes (oputBytes m1 name) url)) (ρ 25) W := q25
        replace q27 : ρ 27 = .int .u64 till := q27
        refine ⟨rfl, ?_⟩
        refine Rg.run_enter (by simp [execOp, Rg.ev, go_sem, q27]; exact ⟨⟨rfl, rfl⟩, rfl⟩) ?_
        refine (put_b _ (oputBytes (oputBytes m1 name) url) till 8 _ (by omega) (by omega) (by rw [oputBytes_length, oputBytes_length]; omega) q25).mono ?_
        rintro e w2 ⟨m, Am, cm, hm, rfl, hz, hxx⟩
        have hm' := hm.out
        subst hm'
        exact ⟨_, rfl, hz.bs, hR.trans' hxx, hxx⟩
      trivial
    case en =>
      intro tm W hR hsz hk
      rw [Rg.fin_eq (ds := [17, 18, 19, 20, 21, 22, 23, 24, 25, 26, 27, 28]) rfl rfl rfl hsz hk]
      have k17 : tm.getD 17 undef = .slice A1 m1.length cc1 := hk 17
      have k18 : tm.getD 18 undef = .pointer (some ⟨w.heap.size, 3, none⟩) := hk 18
      have k19 : tm.getD 19 undef = str name := hk 19
      have k20 : (fun v W => Bs W v name) (tm.getD 20 undef) W := hk 20
      have k21 : (fun v W => Bs W v (oputBytes m1 name)) (tm.getD 21 undef) W := hk 21
      have k22 : tm.getD 22 undef = .pointer (some ⟨w.heap.size, 4, none⟩) := hk 22
      have k23 : tm.getD 23 undef = str url := hk 23
      have k24 : (fun v W => Bs W v url) (tm.getD 24 undef) W := hk 24
      have k25 : (fun v W => Bs W v (oputBytes (oputBytes m1 name) url)) (tm.getD 25 undef) W := hk 25
      have k26 : tm.getD 26 undef = .pointer (some ⟨w.heap.size, 5, none⟩) := hk 26
      have k27 : tm.getD 27 undef = .int .u64 till := hk 27
      have k28 : (fun v W => Bs W v (oput (oputBytes (oputBytes m1 name) url) till 8)) (tm.getD 28 undef) W := hk 28
      clear hk hsz
      simp only [Rg.putAll, List.setIfInBounds_toArray, List.set_cons_zero, List.set_cons_succ, k17, k18, k19, k22, k23, k26, k27]
      clear k17
      clear k18
      clear k19
      generalize tm.getD 20 undef = u20 at *
      generalize tm.getD 21 undef = u21 at *
      clear k22
      clear k23
      generalize tm.getD 24 undef = u24 at *
      generalize tm.getD 25 undef = u25 at *
      clear k26
      clear k27
      generalize tm.getD 28 undef = u28 at *

      go_wp2
      go_ret
      have hq := congrArg List.length (cbytes_eq x y seq name url till m1 hm1.out)
      rw [HC.out, ← cbytes_eq x y seq name url till m1 hm1.out]
      obtain ⟨A, c, rfl, h1, h2, h3⟩ := id k28
      exact ⟨_, A, c, hide rfl, rfl, k28, hxw.trans' hR⟩
end Go.Proofs.Ytccpbchcfgggmaa
