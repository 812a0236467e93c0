/- CmdBack. -/
import Derived.Test.YtccpbchcfgggmaaCmd9
import Derived.Test.YtccpbchcfgggmaaPlace
namespace Go.Proofs.Ytccpbchcfgggmaa
set_option linter.unusedVariables false
set_option linter.unusedSimpArgs false
set_option linter.unnecessarySimpa false
set_option maxRecDepth 100000
open Go.RowKit
theorem cput_len1 (c : Cm) (hk : c.kind ≠ 0) : 1 ≤ (cput c).length := by
  rw [cput, if_neg hk]
  have h := cbytes_ne c []
  rw [List.append_nil] at h
  rcases Nat.eq_zero_or_pos (cbytes c).length with h0 | h0
  · exact absurd (List.eq_nil_of_length_eq_zero h0) h
  · exact h0
theorem cput_len2 (c : Cm) (h : c.fit) : (cput c).length ≤ 1000 := by
  unfold cput
  split
  · simp
  · have := h.n1; have := h.u1
    simp [cbytes, be_length, oputBytes_length]; omega
theorem ctake_len (b : Bytes) (h : (ctake b).2 = 0) : (ctake b).1.name.length ≤ b.length ∧ (ctake b).1.url.length ≤ b.length := by
  unfold ctake at *
  by_cases hb : b = []
  · rw [if_pos hb]; simp [Cm.zero]
  · rw [if_neg hb] at *
    by_cases he : (pall (b, 0)).2.2 = 0
    · rw [if_pos he] at *
      obtain ⟨h1, h2, h3⟩ := pall_inv b he
      have h4 := congrArg List.length h1
      simp [cbytes, be_length, oputBytes_length] at h4
      simp only
      omega
    · rw [if_neg he] at h; exact absurd h he
theorem ctake_b' (A : Option Addr) (n c : Nat) (b : Bytes) (w : World) (hl : b.length ≤ 140737488350000) (hx : Bs w (.slice A n c) b) (C : Cm) (E : Int) (h : ctake b = (C, E)) :
    Calls Try.prog 14 #[.slice A n c] w fun e w' => e = .returned (.tuple #[cv C, .int .i64 E]) ∧ Ext w w' := by
  have := ctake_b _ b w hl hx
  rw [h] at this
  exact this
set_option maxHeartbeats 3200000 in
theorem cmdBack_walk (cc : Array Value) (c : Cm) (cut more : Int) (x : Value) (b : Bytes) (w : World) (hc : cmE.rep w noneAt cc.toList c) (hcut : -9223372036854775808 ≤ cut ∧ cut ≤ 9223372036854775807) (hmore : 0 ≤ more ∧ more ≤ 255) (hx : Bs w x b) :
    Calls Try.prog 4 #[.agg cc, .int .i64 cut, .int .u8 more, x] w fun e w' => e = .returned (.bool true) ∧ Ext w w' := by
  obtain ⟨rfl, wc⟩ := cmE_rep hc
  obtain ⟨y, rfl⟩ := u8_of more hmore.1 hmore.2
  obtain ⟨A, cx, rfl, -, -, -⟩ := id hx
  clear hc hmore
  have hL0 : Blk (w.alloc (.cells (ccells c) 24)) w.heap.size 24 (ccells c) := Blk.new w _ _
  have hxw0 : Ext w (w.alloc (.cells (ccells c) 24)) := (Ext.rfl' w).alloc' _
  go_enter Try.func4, Try.ntmps4
  go_wp2_with fail
  refine (begun17_b _).mono ?_
  rintro e W0 ⟨rfl, hx1⟩
  have hL1 := hL0.ext hx1
  have hxw := hxw0.trans' hx1
  have xa0 := (hL1.cell 0).trans rfl
  have xa1 := (hL1.cell 1).trans rfl
  have xa2 := (hL1.cell 2).trans rfl
  have xa3 := (hL1.cell 3).trans rfl
  have xa4 := (hL1.cell 4).trans rfl
  have xa5 := (hL1.cell 5).trans rfl
  go_wp2_with fail
  refine (may17_b c wc _).mono ?_
  rintro e Wa ⟨ra, rfl, fa, hxa⟩
  have hLa := hL1.ext hxa
  have hxwa := hxw.trans' hxa
  cases ra
  · go_wp2
    go_ret
    exact ⟨rfl, hxwa⟩
  have fa' := hide (fa rfl)
  clear fa
  by_cases hl : (300 : Int) < b.length
  · go_wp2
    go_ret
    exact ⟨rfl, hxwa⟩
  have ya0 := (hLa.cell 0).trans rfl
  have ya1 := (hLa.cell 1).trans rfl
  have ya2 := (hLa.cell 2).trans rfl
  have ya3 := (hLa.cell 3).trans rfl
  have ya4 := (hLa.cell 4).trans rfl
  have ya5 := (hLa.cell 5).trans rfl
  have P := hide fun W => cput_b c fa'.out.ok (by have := fa'.out.n1; omega) (by have := fa'.out.u1; omega) W
  go_wp2_with fail
  refine (P.out _).mono ?_
  rintro e W1 ⟨m, Am, cm, hm, rfl, hb1, hxb⟩
  have hL := hLa.ext hxb
  have hxw1 := hxwa.trans' hxb
  have za0 := (hL.cell 0).trans rfl
  by_cases hk : c.kind = 0
  · have hm0 : (m.length : Int) = 0 := by rw [hm.out, cput, if_pos hk]; rfl
    have hm1 : ((m.length : Int) == 0) = true := by simpa using hm0
    go_wp2
    go_ret
    exact ⟨rfl, hxw1⟩
  have hk' : (c.kind == 0) = false := by simpa using hk
  have hml : 1 ≤ m.length := by rw [hm.out]; exact cput_len1 c hk
  have hmu : m.length ≤ 1000 := by rw [hm.out]; exact cput_len2 c fa'.out
  go_wp2_with fail
  refine (ctake_b' _ _ _ m W1 (by omega) hb1 c 0 (by rw [hm.out]; exact ctake_put c fa'.out.ok hk)).mono ?_
  rintro e W2 ⟨rfl, hx2⟩
  obtain ⟨g2, hg2⟩ : ∃ g, W2.heap.size = g := ⟨_, rfl⟩
  have hM := Blk.new W2 24 (ccells c)
  rw [hg2] at hM
  have hx2' := hx2.alloc' (.cells (ccells c) 24)
  go_wp2_with fail
  refine (place_b cut _ _ hcut (by omega)).mono ?_
  rintro e W2' ⟨p, hp, rfl, rfl⟩
  have hbc := (hb1.ext hx2').front (k := p) (by omega)
  have hpl : (m.take p).length = p := by rw [List.length_take]; omega
  have hcap1 : m.length ≤ cm := hb1.inv.2.1
  obtain ⟨C3, E3, H3⟩ : ∃ C E, ctake (m.take p) = (C, E) := ⟨_, _, rfl⟩
  have HC3 : Hid ((p = 0 ∧ E3 = 0) ∨ (¬ p = 0 ∧ E3 = 3)) := by
    unfold Hid
    by_cases h0 : p = 0
    · subst h0
      rw [List.take_zero] at H3
      exact .inl ⟨rfl, (congrArg Prod.snd H3).symm⟩
    · have h1 := ctake_cut c fa'.out.ok hk p (by rw [← hm.out]; omega) (by omega)
      rw [← hm.out, H3] at h1
      exact .inr ⟨h0, congrArg Prod.snd h1⟩
  go_wp2_with fail
  refine (ctake_b' _ _ _ (m.take p) _ (by omega) hbc C3 E3 H3).mono ?_
  rintro e W3 ⟨rfl, hx3⟩
  clear H3
  obtain ⟨g3, hg3⟩ : ∃ g, W3.heap.size = g := ⟨_, rfl⟩
  have hx3' := hx3.alloc' (.cells (ccells C3) 24)
  have hb3 := (hb1.ext hx2').ext hx3'
  go_wp2_with (first | (at_builtin; refine wpList_app (W3.alloc (.cells (ccells C3) 24)) _ rfl (.tmp 54) (.tmp 55) rfl _ [] rfl (nw_lit (W3.alloc (.cells (ccells C3) 24)) _ (Ext.rfl' _) _ (by simp [hg3])) ((Ext.rfl' _).alloc' _) _ m rfl (hb3.ext ((Ext.rfl' _).alloc' _)) (by simp; omega) ?_; intro k4 A4 c4 W4 hk4 hz4 hx4 _; have hl4 : k4.length ≤ 1000 := by rw [hk4.out]; simp only [List.nil_append]; omega) | (at_builtin; refine wpList_app (W3.alloc (.cells (ccells C3) 24)) _ rfl (.tmp 56) (.tmp 58) rfl _ k4 rfl (own_ext hz4 ((Ext.rfl' _).alloc' _)) (hx4.alloc' _) _ [y] rfl (Bs.lit (w := W4) 5 [y] _ rfl (by simp [maxLen]) (0, 0)) (by simp only [List.length_cons, List.length_nil]; omega) ?_; intro k5 A5 c5 W5 hk5 hz5 hx5 _; have hl5 : k5.length ≤ 1001 := by rw [hk5.out, List.length_append]; simp only [List.length_cons, List.length_nil]; omega))
  have H5 : ctake k5 = (Cm.zero, 2) := by
    rw [hk5.out, hk4.out, List.nil_append, hm.out]
    exact ctake_more c fa'.out.ok hk y
  refine (ctake_b' _ _ _ k5 _ (by omega) hz5.bs Cm.zero 2 H5).mono ?_
  rintro e W6 ⟨rfl, hx6⟩
  clear H5
  obtain ⟨g4, hg4⟩ : ∃ g, W6.heap.size = g := ⟨_, rfl⟩
  have hx36 := hx5.trans' hx6
  have hx6' := hx36.alloc' (.cells (ccells Cm.zero) 24)
  have hbx := (((hx.ext hxw1).ext hx2').ext hx3').ext hx6'
  obtain ⟨Y, H, HY⟩ : ∃ C E, ctake b = (C, E) := ⟨_, _, rfl⟩
  have HH : Hid (H = 0 → cput Y = b ∧ Y.ok ∧ Y.name.length ≤ 300 ∧ Y.url.length ≤ 300) := by
    unfold Hid
    intro h0
    have h1 := cput_take b (by rw [HY]; exact h0)
    have h2 := ctake_len b (by rw [HY]; exact h0)
    rw [HY] at h1 h2
    exact ⟨h1.1, h1.2, by have := h2.1; simp only at this; omega, by have := h2.2; simp only at this; omega⟩
  go_wp2_with fail
  refine (ctake_b' _ _ _ b _ (by omega) hbx Y H HY).mono ?_
  rintro e W7 ⟨rfl, hx7⟩
  clear HY
  obtain ⟨g5, hg5⟩ : ∃ g, W7.heap.size = g := ⟨_, rfl⟩
  obtain ⟨W1e, hW1e⟩ : ∃ W, W = W7.alloc (.cells (ccells Y) 24) := ⟨_, rfl⟩
  have hx7' := hx7.alloc' (.cells (ccells Y) 24)
  have hYe := Blk.new W7 24 (ccells Y)
  rw [hg5] at hYe
  have hLe := (((hL.ext hx2').ext hx3').ext hx6').ext hx7'
  have hMe := ((hM.ext hx3').ext hx6').ext hx7'
  have hbe := hbx.ext hx7'
  have hxe := (((hxw1.trans' hx2').trans' hx3').trans' hx6').trans' hx7'
  obtain ⟨r, hr, heq⟩ := eq_cmd c c
  obtain rfl : r = true := hr.2 rfl
  have HE := hide heq
  clear heq hr
  rw [← hW1e] at hYe hLe hMe hbe hxe
  go_wp2
  rw [← hW1e]
  clear hW1e
  obtain ⟨W1, hW1⟩ : ∃ W, W = W1e := ⟨_, rfl⟩
  subst hW1
  rcases HC3.out with ⟨rfl, rfl⟩ | ⟨hp0, rfl⟩
  · by_cases hH : H = 0
    · subst hH
      have HB := hide (HH.out rfl).1
      have PY := hide fun W => cput_b Y (HH.out rfl).2.1 (by have := (HH.out rfl).2.2.1; omega) (by have := (HH.out rfl).2.2.2; omega) W
      refine Rg.regionT Try.checked.mixed 103 36 (by kernel_rfl) [
        (fun x_ _ => x_ = .int .i64 0),
        (fun x_ _ => x_ = .bool true),
        (fun x_ _ => x_ = .bool true),
        (fun x_ _ => x_ = cv c),
        (fun x_ _ => x_ = cv c),
        (fun x_ _ => x_ = .bool true),
        (fun x_ _ => x_ = .bool true),
        (fun x_ _ => x_ = .bool true),
        (fun x_ _ => x_ = .int .i64 0),
        (fun x_ _ => x_ = .bool true),
        (fun x_ _ => x_ = .bool true),
        (fun x_ _ => x_ = .int .i64 0),
        (fun x_ _ => x_ = .bool true),
        (fun x_ _ => x_ = .bool true),
        (fun x_ _ => x_ = .bool true),
        (fun x_ _ => x_ = undef),
        (fun x_ _ => x_ = undef),
        (fun x_ _ => x_ = .bool true),
        (fun x_ _ => x_ = .bool true),
        (fun x_ _ => x_ = .bool true),
        (fun x_ _ => x_ = .int .i64 2),
        (fun x_ _ => x_ = .bool true),
        (fun x_ _ => x_ = .bool true),
        (fun x_ _ => x_ = .bool true),
        (fun x_ _ => x_ = .int .i64 0),
        (fun x_ _ => x_ = .bool false),
        (fun x_ _ => x_ = .bool false),
        (fun x_ _ => x_ = cv Y),
        (fun v W => Bs W v b),
        (fun x_ _ => x_ = str b),
        (fun x_ _ => x_ = .slice A b.length cx),
        (fun x_ _ => x_ = str b),
        (fun x_ _ => x_ = .bool true),
        (fun x_ _ => x_ = .bool true),
        (fun x_ _ => x_ = .bool true),
        (fun x_ _ => x_ = .bool true)] (fun W => Ext W1 W) Ext rfl rfl rfl
        ?st ((Ext.rfl' W1).drew') ?ob ?en
      case st => exact ⟨fun _ _ _ h _ => h, fun _ _ _ h _ => h, fun _ _ _ h _ => h, fun _ _ _ h _ => h, fun _ _ _ h _ => h, fun _ _ _ h _ => h, fun _ _ _ h _ => h, fun _ _ _ h _ => h, fun _ _ _ h _ => h, fun _ _ _ h _ => h, fun _ _ _ h _ => h, fun _ _ _ h _ => h, fun _ _ _ h _ => h, fun _ _ _ h _ => h, fun _ _ _ h _ => h, fun _ _ _ h _ => h, fun _ _ _ h _ => h, fun _ _ _ h _ => h, fun _ _ _ h _ => h, fun _ _ _ h _ => h, fun _ _ _ h _ => h, fun _ _ _ h _ => h, fun _ _ _ h _ => h, fun _ _ _ h _ => h, fun _ _ _ h _ => h, fun _ _ _ h _ => h, fun _ _ _ h _ => h, fun _ _ _ h _ => h, fun _ _ _ h hx => h.ext hx, fun _ _ _ h _ => h, fun _ _ _ h _ => h, fun _ _ _ h _ => h, fun _ _ _ h _ => h, fun _ _ _ h _ => h, fun _ _ _ h _ => h, fun _ _ _ h _ => h, trivial⟩
      case ob =>
        refine ⟨Rg.at_run [11] rfl ?_, ?_⟩
        · intro ρ W hR ⟨q11, _⟩
          replace q11 : ρ 11 = .int .i64 0 := q11
          refine ⟨rfl, ?_⟩
          exact Rg.run_ok (v := .int .i64 0) (by simp [execOp, Rg.ev, go_sem, q11]) ⟨rfl, hR, Ext.rfl' _⟩
        refine ⟨Rg.at_run [68] rfl ?_, ?_⟩
        · intro ρ W hR ⟨q68, _⟩
          replace q68 : ρ 68 = .int .i64 0 := q68
          refine ⟨rfl, ?_⟩
          exact Rg.run_ok (v := .bool true) (by simp [execOp, Rg.ev, go_sem, q68]) ⟨rfl, hR, Ext.rfl' _⟩
        refine ⟨Rg.at_run [69] rfl ?_, ?_⟩
        · intro ρ W hR ⟨q69, _⟩
          replace q69 : ρ 69 = .bool true := q69
          refine ⟨rfl, ?_⟩
          exact Rg.run_ok (v := .bool true) (by simp [execOp, Rg.ev, go_sem, q69]) ⟨rfl, hR, Ext.rfl' _⟩
        refine ⟨Rg.at_run [10, 70] rfl ?_, ?_⟩
        · intro ρ W hR ⟨q10, q70, _⟩
          replace q10 : ρ 10 = .pointer (some ⟨g2, 0, none⟩) := q10
          replace q70 : ρ 70 = .bool true := q70
          refine ⟨by simp [Rg.wants, q70], ?_⟩
          have c0_ : W.cell? ⟨g2, 0, none⟩ = some (.int .i64 c.kind) := ((hMe.ext hR).cell 0).trans rfl
          have c1_ : W.cell? ⟨g2, 1, none⟩ = some (.int .i64 c.client) := ((hMe.ext hR).cell 1).trans rfl
          have c2_ : W.cell? ⟨g2, 2, none⟩ = some (.int .u64 c.seq) := ((hMe.ext hR).cell 2).trans rfl
          have c3_ : W.cell? ⟨g2, 3, none⟩ = some (str c.name) := ((hMe.ext hR).cell 3).trans rfl
          have c4_ : W.cell? ⟨g2, 4, none⟩ = some (str c.url) := ((hMe.ext hR).cell 4).trans rfl
          have c5_ : W.cell? ⟨g2, 5, none⟩ = some (.int .u64 c.till) := ((hMe.ext hR).cell 5).trans rfl
          exact Rg.run_ok (v := cv c) (by simp [execOp, Rg.ev, go_sem, q10, c0_, c1_, c2_, c3_, c4_, c5_]) ⟨rfl, hR, Ext.rfl' _⟩
        refine ⟨Rg.at_run [4, 70] rfl ?_, ?_⟩
        · intro ρ W hR ⟨q4, q70, _⟩
          replace q4 : ρ 4 = .pointer (some ⟨w.heap.size, 0, none⟩) := q4
          replace q70 : ρ 70 = .bool true := q70
          refine ⟨by simp [Rg.wants, q70], ?_⟩
          have c0_ : W.cell? ⟨w.heap.size, 0, none⟩ = some (.int .i64 c.kind) := ((hLe.ext hR).cell 0).trans rfl
          have c1_ : W.cell? ⟨w.heap.size, 1, none⟩ = some (.int .i64 c.client) := ((hLe.ext hR).cell 1).trans rfl
          have c2_ : W.cell? ⟨w.heap.size, 2, none⟩ = some (.int .u64 c.seq) := ((hLe.ext hR).cell 2).trans rfl
          have c3_ : W.cell? ⟨w.heap.size, 3, none⟩ = some (str c.name) := ((hLe.ext hR).cell 3).trans rfl
          have c4_ : W.cell? ⟨w.heap.size, 4, none⟩ = some (str c.url) := ((hLe.ext hR).cell 4).trans rfl
          have c5_ : W.cell? ⟨w.heap.size, 5, none⟩ = some (.int .u64 c.till) := ((hLe.ext hR).cell 5).trans rfl
          exact Rg.run_ok (v := cv c) (by simp [execOp, Rg.ev, go_sem, q4, c0_, c1_, c2_, c3_, c4_, c5_]) ⟨rfl, hR, Ext.rfl' _⟩
        refine ⟨Rg.at_run [71, 72, 70] rfl ?_, ?_⟩
        · intro ρ W hR ⟨q71, q72, q70, _⟩
          replace q71 : ρ 71 = cv c := q71
          replace q72 : ρ 72 = cv c := q72
          replace q70 : ρ 70 = .bool true := q70
          refine ⟨by simp [Rg.wants, q70], ?_⟩
          have h2 := HE.out W
          exact Rg.run_ok (v := .bool true) (by simp only [execOp, Rg.ev, resolve, Sem.run_bind, Sem.run_pure, Result.andThen_ok, q71, q72]; rw [run_eqGuard_agg W .eql 24 _ _ (ccells c) (ccells c) (by kernel_rfl)]; simp only [Result.andThen_ok, h2]) ⟨rfl, hR, Ext.rfl' _⟩
        refine ⟨Rg.at_run [70, 73] rfl ?_, ?_⟩
        · intro ρ W hR ⟨q70, q73, _⟩
          replace q70 : ρ 70 = .bool true := q70
          replace q73 : ρ 73 = .bool true := q73
          refine ⟨rfl, ?_⟩
          exact Rg.run_ok (v := .bool true) (by simp [execOp, Rg.ev, go_sem, q70, q73]) ⟨rfl, hR, Ext.rfl' _⟩
        refine ⟨Rg.at_run [74] rfl ?_, ?_⟩
        · intro ρ W hR ⟨q74, _⟩
          replace q74 : ρ 74 = .bool true := q74
          refine ⟨rfl, ?_⟩
          exact Rg.run_ok (v := .bool true) (by simp [execOp, Rg.ev, go_sem, q74]) ⟨rfl, hR, Ext.rfl' _⟩
        refine ⟨Rg.at_run [12, 75] rfl ?_, ?_⟩
        · intro ρ W hR ⟨q12, q75, _⟩
          replace q12 : ρ 12 = .int .i64 0 := q12
          replace q75 : ρ 75 = .bool true := q75
          refine ⟨by simp [Rg.wants, q75], ?_⟩
          exact Rg.run_ok (v := .int .i64 0) (by simp [execOp, Rg.ev, go_sem, q12]) ⟨rfl, hR, Ext.rfl' _⟩
        refine ⟨Rg.at_run [76, 75] rfl ?_, ?_⟩
        · intro ρ W hR ⟨q76, q75, _⟩
          replace q76 : ρ 76 = .int .i64 0 := q76
          replace q75 : ρ 75 = .bool true := q75
          refine ⟨by simp [Rg.wants, q75], ?_⟩
          exact Rg.run_ok (v := .bool true) (by simp [execOp, Rg.ev, go_sem, q76]) ⟨rfl, hR, Ext.rfl' _⟩
        refine ⟨Rg.at_run [77, 75] rfl ?_, ?_⟩
        · intro ρ W hR ⟨q77, q75, _⟩
          replace q77 : ρ 77 = .bool true := q77
          replace q75 : ρ 75 = .bool true := q75
          refine ⟨by simp [Rg.wants, q75], ?_⟩
          exact Rg.run_ok (v := .bool true) (by simp [execOp, Rg.ev, go_sem, q77]) ⟨rfl, hR, Ext.rfl' _⟩
        refine ⟨Rg.at_run [14, 78] rfl ?_, ?_⟩
        · intro ρ W hR ⟨q14, q78, _⟩
          replace q14 : ρ 14 = .int .i64 0 := q14
          replace q78 : ρ 78 = .bool true := q78
          refine ⟨by simp [Rg.wants, q78], ?_⟩
          exact Rg.run_ok (v := .int .i64 0) (by simp [execOp, Rg.ev, go_sem, q14]) ⟨rfl, hR, Ext.rfl' _⟩
        refine ⟨Rg.at_run [79, 78] rfl ?_, ?_⟩
        · intro ρ W hR ⟨q79, q78, _⟩
          replace q79 : ρ 79 = .int .i64 0 := q79
          replace q78 : ρ 78 = .bool true := q78
          refine ⟨by simp [Rg.wants, q78], ?_⟩
          exact Rg.run_ok (v := .bool true) (by simp [execOp, Rg.ev, go_sem, q79]) ⟨rfl, hR, Ext.rfl' _⟩
        refine ⟨Rg.at_run [78, 80, 75] rfl ?_, ?_⟩
        · intro ρ W hR ⟨q78, q80, q75, _⟩
          replace q78 : ρ 78 = .bool true := q78
          replace q80 : ρ 80 = .bool true := q80
          replace q75 : ρ 75 = .bool true := q75
          refine ⟨by simp [Rg.wants, q75], ?_⟩
          exact Rg.run_ok (v := .bool true) (by simp [execOp, Rg.ev, go_sem, q78, q80]) ⟨rfl, hR, Ext.rfl' _⟩
        refine ⟨Rg.at_run [81, 75] rfl ?_, ?_⟩
        · intro ρ W hR ⟨q81, q75, _⟩
          replace q81 : ρ 81 = .bool true := q81
          replace q75 : ρ 75 = .bool true := q75
          refine ⟨by simp [Rg.wants, q75], ?_⟩
          exact Rg.run_ok (v := .bool true) (by simp [execOp, Rg.ev, go_sem, q81]) ⟨rfl, hR, Ext.rfl' _⟩
        refine ⟨Rg.at_skip [14, 82] rfl (by intro ρ W hR ⟨q14, q82, _⟩; replace q14 : ρ 14 = .int .i64 0 := q14; replace q82 : ρ 82 = .bool true := q82; exact ⟨by simp [Rg.wants, q82], rfl, Ext.rfl' _⟩), ?_⟩
        refine ⟨Rg.at_skip [83, 82] rfl (by intro ρ W hR ⟨q83, q82, _⟩; replace q83 : ρ 83 = undef := q83; replace q82 : ρ 82 = .bool true := q82; exact ⟨by simp [Rg.wants, q82], rfl, Ext.rfl' _⟩), ?_⟩
        refine ⟨Rg.at_run [82, 84, 75] rfl ?_, ?_⟩
        · intro ρ W hR ⟨q82, q84, q75, _⟩
          replace q82 : ρ 82 = .bool true := q82
          replace q84 : ρ 84 = undef := q84
          replace q75 : ρ 75 = .bool true := q75
          refine ⟨by simp [Rg.wants, q75], ?_⟩
          exact Rg.run_ok (v := .bool true) (by simp [execOp, Rg.ev, go_sem, q82, q84]) ⟨rfl, hR, Ext.rfl' _⟩
        refine ⟨Rg.at_run [75, 85] rfl ?_, ?_⟩
        · intro ρ W hR ⟨q75, q85, _⟩
          replace q75 : ρ 75 = .bool true := q75
          replace q85 : ρ 85 = .bool true := q85
          refine ⟨rfl, ?_⟩
          exact Rg.run_ok (v := .bool true) (by simp [execOp, Rg.ev, go_sem, q75, q85]) ⟨rfl, hR, Ext.rfl' _⟩
        refine ⟨Rg.at_run [86] rfl ?_, ?_⟩
        · intro ρ W hR ⟨q86, _⟩
          replace q86 : ρ 86 = .bool true := q86
          refine ⟨rfl, ?_⟩
          exact Rg.run_ok (v := .bool true) (by simp [execOp, Rg.ev, go_sem, q86]) ⟨rfl, hR, Ext.rfl' _⟩
        refine ⟨Rg.at_run [16, 87] rfl ?_, ?_⟩
        · intro ρ W hR ⟨q16, q87, _⟩
          replace q16 : ρ 16 = .int .i64 2 := q16
          replace q87 : ρ 87 = .bool true := q87
          refine ⟨by simp [Rg.wants, q87], ?_⟩
          exact Rg.run_ok (v := .int .i64 2) (by simp [execOp, Rg.ev, go_sem, q16]) ⟨rfl, hR, Ext.rfl' _⟩
        refine ⟨Rg.at_run [88, 87] rfl ?_, ?_⟩
        · intro ρ W hR ⟨q88, q87, _⟩
          replace q88 : ρ 88 = .int .i64 2 := q88
          replace q87 : ρ 87 = .bool true := q87
          refine ⟨by simp [Rg.wants, q87], ?_⟩
          exact Rg.run_ok (v := .bool true) (by simp [execOp, Rg.ev, go_sem, q88]) ⟨rfl, hR, Ext.rfl' _⟩
        refine ⟨Rg.at_run [87, 89] rfl ?_, ?_⟩
        · intro ρ W hR ⟨q87, q89, _⟩
          replace q87 : ρ 87 = .bool true := q87
          replace q89 : ρ 89 = .bool true := q89
          refine ⟨rfl, ?_⟩
          exact Rg.run_ok (v := .bool true) (by simp [execOp, Rg.ev, go_sem, q87, q89]) ⟨rfl, hR, Ext.rfl' _⟩
        refine ⟨Rg.at_run [90] rfl ?_, ?_⟩
        · intro ρ W hR ⟨q90, _⟩
          replace q90 : ρ 90 = .bool true := q90
          refine ⟨rfl, ?_⟩
          exact Rg.run_ok (v := .bool true) (by simp [execOp, Rg.ev, go_sem, q90]) ⟨rfl, hR, Ext.rfl' _⟩
        refine ⟨Rg.at_run [18, 91] rfl ?_, ?_⟩
        · intro ρ W hR ⟨q18, q91, _⟩
          replace q18 : ρ 18 = .int .i64 0 := q18
          replace q91 : ρ 91 = .bool true := q91
          refine ⟨by simp [Rg.wants, q91], ?_⟩
          exact Rg.run_ok (v := .int .i64 0) (by simp [execOp, Rg.ev, go_sem, q18]) ⟨rfl, hR, Ext.rfl' _⟩
        refine ⟨Rg.at_run [92, 91] rfl ?_, ?_⟩
        · intro ρ W hR ⟨q92, q91, _⟩
          replace q92 : ρ 92 = .int .i64 0 := q92
          replace q91 : ρ 91 = .bool true := q91
          refine ⟨by simp [Rg.wants, q91], ?_⟩
          exact Rg.run_ok (v := .bool false) (by simp [execOp, Rg.ev, go_sem, q92]) ⟨rfl, hR, Ext.rfl' _⟩
        refine ⟨Rg.at_run [93, 91] rfl ?_, ?_⟩
        · intro ρ W hR ⟨q93, q91, _⟩
          replace q93 : ρ 93 = .bool false := q93
          replace q91 : ρ 91 = .bool true := q91
          refine ⟨by simp [Rg.wants, q91], ?_⟩
          exact Rg.run_ok (v := .bool false) (by simp [execOp, Rg.ev, go_sem, q93]) ⟨rfl, hR, Ext.rfl' _⟩
        refine ⟨Rg.at_run [17, 94] rfl ?_, ?_⟩
        · intro ρ W hR ⟨q17, q94, _⟩
          replace q17 : ρ 17 = .pointer (some ⟨g5, 0, none⟩) := q17
          replace q94 : ρ 94 = .bool false := q94
          refine ⟨by simp [Rg.wants, q94], ?_⟩
          have c0_ : W.cell? ⟨g5, 0, none⟩ = some (.int .i64 Y.kind) := ((hYe.ext hR).cell 0).trans rfl
          have c1_ : W.cell? ⟨g5, 1, none⟩ = some (.int .i64 Y.client) := ((hYe.ext hR).cell 1).trans rfl
          have c2_ : W.cell? ⟨g5, 2, none⟩ = some (.int .u64 Y.seq) := ((hYe.ext hR).cell 2).trans rfl
          have c3_ : W.cell? ⟨g5, 3, none⟩ = some (str Y.name) := ((hYe.ext hR).cell 3).trans rfl
          have c4_ : W.cell? ⟨g5, 4, none⟩ = some (str Y.url) := ((hYe.ext hR).cell 4).trans rfl
          have c5_ : W.cell? ⟨g5, 5, none⟩ = some (.int .u64 Y.till) := ((hYe.ext hR).cell 5).trans rfl
          exact Rg.run_ok (v := cv Y) (by simp [execOp, Rg.ev, go_sem, q17, c0_, c1_, c2_, c3_, c4_, c5_]) ⟨rfl, hR, Ext.rfl' _⟩
        refine ⟨Rg.at_run [95, 94] rfl ?_, ?_⟩
        · intro ρ W hR ⟨q95, q94, _⟩
          replace q95 : ρ 95 = cv Y := q95
          replace q94 : ρ 94 = .bool false := q94
          refine ⟨by simp [Rg.wants, q94], ?_⟩
          refine Rg.run_enter (by simp [execOp, Rg.ev, go_sem, q95]; exact ⟨⟨rfl, rfl⟩, rfl⟩) ?_
          refine (PY.out W).mono ?_
          rintro e w2 ⟨m, Am, cm, hm, rfl, hz, hxx⟩
          have hm' : m = b := hm.out.trans HB.out
          subst hm'
          exact ⟨_, rfl, hz, hR.trans' hxx, hxx⟩
        refine ⟨Rg.at_run [96, 94] rfl ?_, ?_⟩
        · intro ρ W hR ⟨q96, q94, _⟩
          replace q96 : (fun v W => Bs W v b) (ρ 96) W := q96
          replace q94 : ρ 94 = .bool false := q94
          refine ⟨by simp [Rg.wants, q94], ?_⟩
          have hb : Bs W (ρ 96) b := q96
          have hs := run_str (P := Try.prog) hb Try.underlying25 Try.underlying5 Try.underlying9
          exact Rg.run_ok (v := str b) (by simp only [execOp, Rg.ev, Sem.run_bind, Sem.run_pure, Result.andThen_ok, hs]) ⟨rfl, hR, Ext.rfl' _⟩
        refine ⟨Rg.at_run [3, 94] rfl ?_, ?_⟩
        · intro ρ W hR ⟨q3, q94, _⟩
          replace q3 : ρ 3 = .slice A b.length cx := q3
          replace q94 : ρ 94 = .bool false := q94
          refine ⟨by simp [Rg.wants, q94], ?_⟩
          exact Rg.run_ok (v := .slice A b.length cx) (by simp [execOp, Rg.ev, go_sem, q3]) ⟨rfl, hR, Ext.rfl' _⟩
        refine ⟨Rg.at_run [98, 94] rfl ?_, ?_⟩
        · intro ρ W hR ⟨q98, q94, _⟩
          replace q98 : ρ 98 = .slice A b.length cx := q98
          replace q94 : ρ 94 = .bool false := q94
          refine ⟨by simp [Rg.wants, q94], ?_⟩
          have hb : Bs W (.slice A b.length cx) b := hbe.ext hR
          have hs := run_str (P := Try.prog) hb Try.underlying25 Try.underlying5 Try.underlying9
          exact Rg.run_ok (v := str b) (by simp only [execOp, Rg.ev, Sem.run_bind, Sem.run_pure, Result.andThen_ok, q98, hs]) ⟨rfl, hR, Ext.rfl' _⟩
        refine ⟨Rg.at_run [97, 99, 94] rfl ?_, ?_⟩
        · intro ρ W hR ⟨q97, q99, q94, _⟩
          replace q97 : ρ 97 = str b := q97
          replace q99 : ρ 99 = str b := q99
          replace q94 : ρ 94 = .bool false := q94
          refine ⟨by simp [Rg.wants, q94], ?_⟩
          exact Rg.run_ok (v := .bool true) (by simp [execOp, Rg.ev, go_sem, q97, q99]) ⟨rfl, hR, Ext.rfl' _⟩
        refine ⟨Rg.at_run [94, 100, 91] rfl ?_, ?_⟩
        · intro ρ W hR ⟨q94, q100, q91, _⟩
          replace q94 : ρ 94 = .bool false := q94
          replace q100 : ρ 100 = .bool true := q100
          replace q91 : ρ 91 = .bool true := q91
          refine ⟨by simp [Rg.wants, q91], ?_⟩
          exact Rg.run_ok (v := .bool true) (by simp [execOp, Rg.ev, go_sem, q94, q100]) ⟨rfl, hR, Ext.rfl' _⟩
        refine ⟨Rg.at_run [91, 101] rfl ?_, ?_⟩
        · intro ρ W hR ⟨q91, q101, _⟩
          replace q91 : ρ 91 = .bool true := q91
          replace q101 : ρ 101 = .bool true := q101
          refine ⟨rfl, ?_⟩
          exact Rg.run_ok (v := .bool true) (by simp [execOp, Rg.ev, go_sem, q91, q101]) ⟨rfl, hR, Ext.rfl' _⟩
        refine ⟨Rg.at_run [102] rfl ?_, ?_⟩
        · intro ρ W hR ⟨q102, _⟩
          replace q102 : ρ 102 = .bool true := q102
          refine ⟨rfl, ?_⟩
          exact Rg.run_ok (v := .bool true) (by simp [execOp, Rg.ev, go_sem, q102]) ⟨rfl, hR, Ext.rfl' _⟩
        trivial
      case en =>
        intro tm W hR hsz hk
        rw [Rg.fin_eq (ds := [68, 69, 70, 71, 72, 73, 74, 75, 76, 77, 78, 79, 80, 81, 82, 83, 84, 85, 86, 87, 88, 89, 90, 91, 92, 93, 94, 95, 96, 97, 98, 99, 100, 101, 102, 8]) rfl rfl rfl hsz hk]
        have k8 : tm.getD 8 undef = .bool true := hk 8
        have k68 : tm.getD 68 undef = .int .i64 0 := hk 68
        have k69 : tm.getD 69 undef = .bool true := hk 69
        have k70 : tm.getD 70 undef = .bool true := hk 70
        have k71 : tm.getD 71 undef = cv c := hk 71
        have k72 : tm.getD 72 undef = cv c := hk 72
        have k73 : tm.getD 73 undef = .bool true := hk 73
        have k74 : tm.getD 74 undef = .bool true := hk 74
        have k75 : tm.getD 75 undef = .bool true := hk 75
        have k76 : tm.getD 76 undef = .int .i64 0 := hk 76
        have k77 : tm.getD 77 undef = .bool true := hk 77
        have k78 : tm.getD 78 undef = .bool true := hk 78
        have k79 : tm.getD 79 undef = .int .i64 0 := hk 79
        have k80 : tm.getD 80 undef = .bool true := hk 80
        have k81 : tm.getD 81 undef = .bool true := hk 81
        have k82 : tm.getD 82 undef = .bool true := hk 82
        have k83 : tm.getD 83 undef = undef := hk 83
        have k84 : tm.getD 84 undef = undef := hk 84
        have k85 : tm.getD 85 undef = .bool true := hk 85
        have k86 : tm.getD 86 undef = .bool true := hk 86
        have k87 : tm.getD 87 undef = .bool true := hk 87
        have k88 : tm.getD 88 undef = .int .i64 2 := hk 88
        have k89 : tm.getD 89 undef = .bool true := hk 89
        have k90 : tm.getD 90 undef = .bool true := hk 90
        have k91 : tm.getD 91 undef = .bool true := hk 91
        have k92 : tm.getD 92 undef = .int .i64 0 := hk 92
        have k93 : tm.getD 93 undef = .bool false := hk 93
        have k94 : tm.getD 94 undef = .bool false := hk 94
        have k95 : tm.getD 95 undef = cv Y := hk 95
        have k96 : (fun v W => Bs W v b) (tm.getD 96 undef) W := hk 96
        have k97 : tm.getD 97 undef = str b := hk 97
        have k98 : tm.getD 98 undef = .slice A b.length cx := hk 98
        have k99 : tm.getD 99 undef = str b := hk 99
        have k100 : tm.getD 100 undef = .bool true := hk 100
        have k101 : tm.getD 101 undef = .bool true := hk 101
        have k102 : tm.getD 102 undef = .bool true := hk 102
        clear hk hsz
        simp only [Rg.putAll, List.setIfInBounds_toArray, List.set_cons_zero, List.set_cons_succ, k8, k68, k69, k70, k71, k72, k73, k74, k75, k76, k77, k78, k79, k80, k81, k82, k83, k84, k85, k86, k87, k88, k89, k90, k91, k92, k93, k94, k95, k97, k98, k99, k100, k101, k102]
        clear k8
        clear k68
        clear k69
        clear k70
        clear k71
        clear k72
        clear k73
        clear k74
        clear k75
        clear k76
        clear k77
        clear k78
        clear k79
        clear k80
        clear k81
        clear k82
        clear k83
        clear k84
        clear k85
        clear k86
        clear k87
        clear k88
        clear k89
        clear k90
        clear k91
        clear k92
        clear k93
        clear k94
        clear k95
        generalize tm.getD 96 undef = u96 at *
        clear k97
        clear k98
        clear k99
        clear k100
        clear k101
        clear k102
        refine Rg.nil_list ?_

        go_wp2
        go_ret
        exact ⟨rfl, hxe.trans' hR⟩
    · skip
      refine Rg.regionT Try.checked.mixed 103 36 (by kernel_rfl) [
        (fun x_ _ => x_ = .int .i64 0),
        (fun x_ _ => x_ = .bool true),
        (fun x_ _ => x_ = .bool true),
        (fun x_ _ => x_ = cv c),
        (fun x_ _ => x_ = cv c),
        (fun x_ _ => x_ = .bool true),
        (fun x_ _ => x_ = .bool true),
        (fun x_ _ => x_ = .bool true),
        (fun x_ _ => x_ = .int .i64 0),
        (fun x_ _ => x_ = .bool true),
        (fun x_ _ => x_ = .bool true),
        (fun x_ _ => x_ = .int .i64 0),
        (fun x_ _ => x_ = .bool true),
        (fun x_ _ => x_ = .bool true),
        (fun x_ _ => x_ = .bool true),
        (fun x_ _ => x_ = undef),
        (fun x_ _ => x_ = undef),
        (fun x_ _ => x_ = .bool true),
        (fun x_ _ => x_ = .bool true),
        (fun x_ _ => x_ = .bool true),
        (fun x_ _ => x_ = .int .i64 2),
        (fun x_ _ => x_ = .bool true),
        (fun x_ _ => x_ = .bool true),
        (fun x_ _ => x_ = .bool true),
        (fun x_ _ => x_ = .int .i64 H),
        (fun x_ _ => x_ = .bool true),
        (fun x_ _ => x_ = .bool true),
        (fun x_ _ => x_ = undef),
        (fun x_ _ => x_ = undef),
        (fun x_ _ => x_ = undef),
        (fun x_ _ => x_ = undef),
        (fun x_ _ => x_ = undef),
        (fun x_ _ => x_ = undef),
        (fun x_ _ => x_ = .bool true),
        (fun x_ _ => x_ = .bool true),
        (fun x_ _ => x_ = .bool true)] (fun W => Ext W1 W) Ext rfl rfl rfl
        ?st ((Ext.rfl' W1).drew') ?ob ?en
      case st => exact ⟨fun _ _ _ h _ => h, fun _ _ _ h _ => h, fun _ _ _ h _ => h, fun _ _ _ h _ => h, fun _ _ _ h _ => h, fun _ _ _ h _ => h, fun _ _ _ h _ => h, fun _ _ _ h _ => h, fun _ _ _ h _ => h, fun _ _ _ h _ => h, fun _ _ _ h _ => h, fun _ _ _ h _ => h, fun _ _ _ h _ => h, fun _ _ _ h _ => h, fun _ _ _ h _ => h, fun _ _ _ h _ => h, fun _ _ _ h _ => h, fun _ _ _ h _ => h, fun _ _ _ h _ => h, fun _ _ _ h _ => h, fun _ _ _ h _ => h, fun _ _ _ h _ => h, fun _ _ _ h _ => h, fun _ _ _ h _ => h, fun _ _ _ h _ => h, fun _ _ _ h _ => h, fun _ _ _ h _ => h, fun _ _ _ h _ => h, fun _ _ _ h _ => h, fun _ _ _ h _ => h, fun _ _ _ h _ => h, fun _ _ _ h _ => h, fun _ _ _ h _ => h, fun _ _ _ h _ => h, fun _ _ _ h _ => h, fun _ _ _ h _ => h, trivial⟩
      case ob =>
        refine ⟨Rg.at_run [11] rfl ?_, ?_⟩
        · intro ρ W hR ⟨q11, _⟩
          replace q11 : ρ 11 = .int .i64 0 := q11
          refine ⟨rfl, ?_⟩
          exact Rg.run_ok (v := .int .i64 0) (by simp [execOp, Rg.ev, go_sem, q11]) ⟨rfl, hR, Ext.rfl' _⟩
        refine ⟨Rg.at_run [68] rfl ?_, ?_⟩
        · intro ρ W hR ⟨q68, _⟩
          replace q68 : ρ 68 = .int .i64 0 := q68
          refine ⟨rfl, ?_⟩
          exact Rg.run_ok (v := .bool true) (by simp [execOp, Rg.ev, go_sem, q68]) ⟨rfl, hR, Ext.rfl' _⟩
        refine ⟨Rg.at_run [69] rfl ?_, ?_⟩
        · intro ρ W hR ⟨q69, _⟩
          replace q69 : ρ 69 = .bool true := q69
          refine ⟨rfl, ?_⟩
          exact Rg.run_ok (v := .bool true) (by simp [execOp, Rg.ev, go_sem, q69]) ⟨rfl, hR, Ext.rfl' _⟩
        refine ⟨Rg.at_run [10, 70] rfl ?_, ?_⟩
        · intro ρ W hR ⟨q10, q70, _⟩
          replace q10 : ρ 10 = .pointer (some ⟨g2, 0, none⟩) := q10
          replace q70 : ρ 70 = .bool true := q70
          refine ⟨by simp [Rg.wants, q70], ?_⟩
          have c0_ : W.cell? ⟨g2, 0, none⟩ = some (.int .i64 c.kind) := ((hMe.ext hR).cell 0).trans rfl
          have c1_ : W.cell? ⟨g2, 1, none⟩ = some (.int .i64 c.client) := ((hMe.ext hR).cell 1).trans rfl
          have c2_ : W.cell? ⟨g2, 2, none⟩ = some (.int .u64 c.seq) := ((hMe.ext hR).cell 2).trans rfl
          have c3_ : W.cell? ⟨g2, 3, none⟩ = some (str c.name) := ((hMe.ext hR).cell 3).trans rfl
          have c4_ : W.cell? ⟨g2, 4, none⟩ = some (str c.url) := ((hMe.ext hR).cell 4).trans rfl
          have c5_ : W.cell? ⟨g2, 5, none⟩ = some (.int .u64 c.till) := ((hMe.ext hR).cell 5).trans rfl
          exact Rg.run_ok (v := cv c) (by simp [execOp, Rg.ev, go_sem, q10, c0_, c1_, c2_, c3_, c4_, c5_]) ⟨rfl, hR, Ext.rfl' _⟩
        refine ⟨Rg.at_run [4, 70] rfl ?_, ?_⟩
        · intro ρ W hR ⟨q4, q70, _⟩
          replace q4 : ρ 4 = .pointer (some ⟨w.heap.size, 0, none⟩) := q4
          replace q70 : ρ 70 = .bool true := q70
          refine ⟨by simp [Rg.wants, q70], ?_⟩
          have c0_ : W.cell? ⟨w.heap.size, 0, none⟩ = some (.int .i64 c.kind) := ((hLe.ext hR).cell 0).trans rfl
          have c1_ : W.cell? ⟨w.heap.size, 1, none⟩ = some (.int .i64 c.client) := ((hLe.ext hR).cell 1).trans rfl
          have c2_ : W.cell? ⟨w.heap.size, 2, none⟩ = some (.int .u64 c.seq) := ((hLe.ext hR).cell 2).trans rfl
          have c3_ : W.cell? ⟨w.heap.size, 3, none⟩ = some (str c.name) := ((hLe.ext hR).cell 3).trans rfl
          have c4_ : W.cell? ⟨w.heap.size, 4, none⟩ = some (str c.url) := ((hLe.ext hR).cell 4).trans rfl
          have c5_ : W.cell? ⟨w.heap.size, 5, none⟩ = some (.int .u64 c.till) := ((hLe.ext hR).cell 5).trans rfl
          exact Rg.run_ok (v := cv c) (by simp [execOp, Rg.ev, go_sem, q4, c0_, c1_, c2_, c3_, c4_, c5_]) ⟨rfl, hR, Ext.rfl' _⟩
        refine ⟨Rg.at_run [71, 72, 70] rfl ?_, ?_⟩
        · intro ρ W hR ⟨q71, q72, q70, _⟩
          replace q71 : ρ 71 = cv c := q71
          replace q72 : ρ 72 = cv c := q72
          replace q70 : ρ 70 = .bool true := q70
          refine ⟨by simp [Rg.wants, q70], ?_⟩
          have h2 := HE.out W
          exact Rg.run_ok (v := .bool true) (by simp only [execOp, Rg.ev, resolve, Sem.run_bind, Sem.run_pure, Result.andThen_ok, q71, q72]; rw [run_eqGuard_agg W .eql 24 _ _ (ccells c) (ccells c) (by kernel_rfl)]; simp only [Result.andThen_ok, h2]) ⟨rfl, hR, Ext.rfl' _⟩
        refine ⟨Rg.at_run [70, 73] rfl ?_, ?_⟩
        · intro ρ W hR ⟨q70, q73, _⟩
          replace q70 : ρ 70 = .bool true := q70
          replace q73 : ρ 73 = .bool true := q73
          refine ⟨rfl, ?_⟩
          exact Rg.run_ok (v := .bool true) (by simp [execOp, Rg.ev, go_sem, q70, q73]) ⟨rfl, hR, Ext.rfl' _⟩
        refine ⟨Rg.at_run [74] rfl ?_, ?_⟩
        · intro ρ W hR ⟨q74, _⟩
          replace q74 : ρ 74 = .bool true := q74
          refine ⟨rfl, ?_⟩
          exact Rg.run_ok (v := .bool true) (by simp [execOp, Rg.ev, go_sem, q74]) ⟨rfl, hR, Ext.rfl' _⟩
        refine ⟨Rg.at_run [12, 75] rfl ?_, ?_⟩
        · intro ρ W hR ⟨q12, q75, _⟩
          replace q12 : ρ 12 = .int .i64 0 := q12
          replace q75 : ρ 75 = .bool true := q75
          refine ⟨by simp [Rg.wants, q75], ?_⟩
          exact Rg.run_ok (v := .int .i64 0) (by simp [execOp, Rg.ev, go_sem, q12]) ⟨rfl, hR, Ext.rfl' _⟩
        refine ⟨Rg.at_run [76, 75] rfl ?_, ?_⟩
        · intro ρ W hR ⟨q76, q75, _⟩
          replace q76 : ρ 76 = .int .i64 0 := q76
          replace q75 : ρ 75 = .bool true := q75
          refine ⟨by simp [Rg.wants, q75], ?_⟩
          exact Rg.run_ok (v := .bool true) (by simp [execOp, Rg.ev, go_sem, q76]) ⟨rfl, hR, Ext.rfl' _⟩
        refine ⟨Rg.at_run [77, 75] rfl ?_, ?_⟩
        · intro ρ W hR ⟨q77, q75, _⟩
          replace q77 : ρ 77 = .bool true := q77
          replace q75 : ρ 75 = .bool true := q75
          refine ⟨by simp [Rg.wants, q75], ?_⟩
          exact Rg.run_ok (v := .bool true) (by simp [execOp, Rg.ev, go_sem, q77]) ⟨rfl, hR, Ext.rfl' _⟩
        refine ⟨Rg.at_run [14, 78] rfl ?_, ?_⟩
        · intro ρ W hR ⟨q14, q78, _⟩
          replace q14 : ρ 14 = .int .i64 0 := q14
          replace q78 : ρ 78 = .bool true := q78
          refine ⟨by simp [Rg.wants, q78], ?_⟩
          exact Rg.run_ok (v := .int .i64 0) (by simp [execOp, Rg.ev, go_sem, q14]) ⟨rfl, hR, Ext.rfl' _⟩
        refine ⟨Rg.at_run [79, 78] rfl ?_, ?_⟩
        · intro ρ W hR ⟨q79, q78, _⟩
          replace q79 : ρ 79 = .int .i64 0 := q79
          replace q78 : ρ 78 = .bool true := q78
          refine ⟨by simp [Rg.wants, q78], ?_⟩
          exact Rg.run_ok (v := .bool true) (by simp [execOp, Rg.ev, go_sem, q79]) ⟨rfl, hR, Ext.rfl' _⟩
        refine ⟨Rg.at_run [78, 80, 75] rfl ?_, ?_⟩
        · intro ρ W hR ⟨q78, q80, q75, _⟩
          replace q78 : ρ 78 = .bool true := q78
          replace q80 : ρ 80 = .bool true := q80
          replace q75 : ρ 75 = .bool true := q75
          refine ⟨by simp [Rg.wants, q75], ?_⟩
          exact Rg.run_ok (v := .bool true) (by simp [execOp, Rg.ev, go_sem, q78, q80]) ⟨rfl, hR, Ext.rfl' _⟩
        refine ⟨Rg.at_run [81, 75] rfl ?_, ?_⟩
        · intro ρ W hR ⟨q81, q75, _⟩
          replace q81 : ρ 81 = .bool true := q81
          replace q75 : ρ 75 = .bool true := q75
          refine ⟨by simp [Rg.wants, q75], ?_⟩
          exact Rg.run_ok (v := .bool true) (by simp [execOp, Rg.ev, go_sem, q81]) ⟨rfl, hR, Ext.rfl' _⟩
        refine ⟨Rg.at_skip [14, 82] rfl (by intro ρ W hR ⟨q14, q82, _⟩; replace q14 : ρ 14 = .int .i64 0 := q14; replace q82 : ρ 82 = .bool true := q82; exact ⟨by simp [Rg.wants, q82], rfl, Ext.rfl' _⟩), ?_⟩
        refine ⟨Rg.at_skip [83, 82] rfl (by intro ρ W hR ⟨q83, q82, _⟩; replace q83 : ρ 83 = undef := q83; replace q82 : ρ 82 = .bool true := q82; exact ⟨by simp [Rg.wants, q82], rfl, Ext.rfl' _⟩), ?_⟩
        refine ⟨Rg.at_run [82, 84, 75] rfl ?_, ?_⟩
        · intro ρ W hR ⟨q82, q84, q75, _⟩
          replace q82 : ρ 82 = .bool true := q82
          replace q84 : ρ 84 = undef := q84
          replace q75 : ρ 75 = .bool true := q75
          refine ⟨by simp [Rg.wants, q75], ?_⟩
          exact Rg.run_ok (v := .bool true) (by simp [execOp, Rg.ev, go_sem, q82, q84]) ⟨rfl, hR, Ext.rfl' _⟩
        refine ⟨Rg.at_run [75, 85] rfl ?_, ?_⟩
        · intro ρ W hR ⟨q75, q85, _⟩
          replace q75 : ρ 75 = .bool true := q75
          replace q85 : ρ 85 = .bool true := q85
          refine ⟨rfl, ?_⟩
          exact Rg.run_ok (v := .bool true) (by simp [execOp, Rg.ev, go_sem, q75, q85]) ⟨rfl, hR, Ext.rfl' _⟩
        refine ⟨Rg.at_run [86] rfl ?_, ?_⟩
        · intro ρ W hR ⟨q86, _⟩
          replace q86 : ρ 86 = .bool true := q86
          refine ⟨rfl, ?_⟩
          exact Rg.run_ok (v := .bool true) (by simp [execOp, Rg.ev, go_sem, q86]) ⟨rfl, hR, Ext.rfl' _⟩
        refine ⟨Rg.at_run [16, 87] rfl ?_, ?_⟩
        · intro ρ W hR ⟨q16, q87, _⟩
          replace q16 : ρ 16 = .int .i64 2 := q16
          replace q87 : ρ 87 = .bool true := q87
          refine ⟨by simp [Rg.wants, q87], ?_⟩
          exact Rg.run_ok (v := .int .i64 2) (by simp [execOp, Rg.ev, go_sem, q16]) ⟨rfl, hR, Ext.rfl' _⟩
        refine ⟨Rg.at_run [88, 87] rfl ?_, ?_⟩
        · intro ρ W hR ⟨q88, q87, _⟩
          replace q88 : ρ 88 = .int .i64 2 := q88
          replace q87 : ρ 87 = .bool true := q87
          refine ⟨by simp [Rg.wants, q87], ?_⟩
          exact Rg.run_ok (v := .bool true) (by simp [execOp, Rg.ev, go_sem, q88]) ⟨rfl, hR, Ext.rfl' _⟩
        refine ⟨Rg.at_run [87, 89] rfl ?_, ?_⟩
        · intro ρ W hR ⟨q87, q89, _⟩
          replace q87 : ρ 87 = .bool true := q87
          replace q89 : ρ 89 = .bool true := q89
          refine ⟨rfl, ?_⟩
          exact Rg.run_ok (v := .bool true) (by simp [execOp, Rg.ev, go_sem, q87, q89]) ⟨rfl, hR, Ext.rfl' _⟩
        refine ⟨Rg.at_run [90] rfl ?_, ?_⟩
        · intro ρ W hR ⟨q90, _⟩
          replace q90 : ρ 90 = .bool true := q90
          refine ⟨rfl, ?_⟩
          exact Rg.run_ok (v := .bool true) (by simp [execOp, Rg.ev, go_sem, q90]) ⟨rfl, hR, Ext.rfl' _⟩
        refine ⟨Rg.at_run [18, 91] rfl ?_, ?_⟩
        · intro ρ W hR ⟨q18, q91, _⟩
          replace q18 : ρ 18 = .int .i64 H := q18
          replace q91 : ρ 91 = .bool true := q91
          refine ⟨by simp [Rg.wants, q91], ?_⟩
          exact Rg.run_ok (v := .int .i64 H) (by simp [execOp, Rg.ev, go_sem, q18]) ⟨rfl, hR, Ext.rfl' _⟩
        refine ⟨Rg.at_run [92, 91] rfl ?_, ?_⟩
        · intro ρ W hR ⟨q92, q91, _⟩
          replace q92 : ρ 92 = .int .i64 H := q92
          replace q91 : ρ 91 = .bool true := q91
          refine ⟨by simp [Rg.wants, q91], ?_⟩
          exact Rg.run_ok (v := .bool true) (by simp [execOp, Rg.ev, go_sem, q92, hH]) ⟨rfl, hR, Ext.rfl' _⟩
        refine ⟨Rg.at_run [93, 91] rfl ?_, ?_⟩
        · intro ρ W hR ⟨q93, q91, _⟩
          replace q93 : ρ 93 = .bool true := q93
          replace q91 : ρ 91 = .bool true := q91
          refine ⟨by simp [Rg.wants, q91], ?_⟩
          exact Rg.run_ok (v := .bool true) (by simp [execOp, Rg.ev, go_sem, q93]) ⟨rfl, hR, Ext.rfl' _⟩
        refine ⟨Rg.at_skip [17, 94] rfl (by intro ρ W hR ⟨q17, q94, _⟩; replace q17 : ρ 17 = .pointer (some ⟨g5, 0, none⟩) := q17; replace q94 : ρ 94 = .bool true := q94; exact ⟨by simp [Rg.wants, q94], rfl, Ext.rfl' _⟩), ?_⟩
        refine ⟨Rg.at_skip [95, 94] rfl (by intro ρ W hR ⟨q95, q94, _⟩; replace q95 : ρ 95 = undef := q95; replace q94 : ρ 94 = .bool true := q94; exact ⟨by simp [Rg.wants, q94], rfl, Ext.rfl' _⟩), ?_⟩
        refine ⟨Rg.at_skip [96, 94] rfl (by intro ρ W hR ⟨q96, q94, _⟩; replace q96 : ρ 96 = undef := q96; replace q94 : ρ 94 = .bool true := q94; exact ⟨by simp [Rg.wants, q94], rfl, Ext.rfl' _⟩), ?_⟩
        refine ⟨Rg.at_skip [3, 94] rfl (by intro ρ W hR ⟨q3, q94, _⟩; replace q3 : ρ 3 = .slice A b.length cx := q3; replace q94 : ρ 94 = .bool true := q94; exact ⟨by simp [Rg.wants, q94], rfl, Ext.rfl' _⟩), ?_⟩
        refine ⟨Rg.at_skip [98, 94] rfl (by intro ρ W hR ⟨q98, q94, _⟩; replace q98 : ρ 98 = undef := q98; replace q94 : ρ 94 = .bool true := q94; exact ⟨by simp [Rg.wants, q94], rfl, Ext.rfl' _⟩), ?_⟩
        refine ⟨Rg.at_skip [97, 99, 94] rfl (by intro ρ W hR ⟨q97, q99, q94, _⟩; replace q97 : ρ 97 = undef := q97; replace q99 : ρ 99 = undef := q99; replace q94 : ρ 94 = .bool true := q94; exact ⟨by simp [Rg.wants, q94], rfl, Ext.rfl' _⟩), ?_⟩
        refine ⟨Rg.at_run [94, 100, 91] rfl ?_, ?_⟩
        · intro ρ W hR ⟨q94, q100, q91, _⟩
          replace q94 : ρ 94 = .bool true := q94
          replace q100 : ρ 100 = undef := q100
          replace q91 : ρ 91 = .bool true := q91
          refine ⟨by simp [Rg.wants, q91], ?_⟩
          exact Rg.run_ok (v := .bool true) (by simp [execOp, Rg.ev, go_sem, q94, q100]) ⟨rfl, hR, Ext.rfl' _⟩
        refine ⟨Rg.at_run [91, 101] rfl ?_, ?_⟩
        · intro ρ W hR ⟨q91, q101, _⟩
          replace q91 : ρ 91 = .bool true := q91
          replace q101 : ρ 101 = .bool true := q101
          refine ⟨rfl, ?_⟩
          exact Rg.run_ok (v := .bool true) (by simp [execOp, Rg.ev, go_sem, q91, q101]) ⟨rfl, hR, Ext.rfl' _⟩
        refine ⟨Rg.at_run [102] rfl ?_, ?_⟩
        · intro ρ W hR ⟨q102, _⟩
          replace q102 : ρ 102 = .bool true := q102
          refine ⟨rfl, ?_⟩
          exact Rg.run_ok (v := .bool true) (by simp [execOp, Rg.ev, go_sem, q102]) ⟨rfl, hR, Ext.rfl' _⟩
        trivial
      case en =>
        intro tm W hR hsz hk
        rw [Rg.fin_eq (ds := [68, 69, 70, 71, 72, 73, 74, 75, 76, 77, 78, 79, 80, 81, 82, 83, 84, 85, 86, 87, 88, 89, 90, 91, 92, 93, 94, 95, 96, 97, 98, 99, 100, 101, 102, 8]) rfl rfl rfl hsz hk]
        have k8 : tm.getD 8 undef = .bool true := hk 8
        have k68 : tm.getD 68 undef = .int .i64 0 := hk 68
        have k69 : tm.getD 69 undef = .bool true := hk 69
        have k70 : tm.getD 70 undef = .bool true := hk 70
        have k71 : tm.getD 71 undef = cv c := hk 71
        have k72 : tm.getD 72 undef = cv c := hk 72
        have k73 : tm.getD 73 undef = .bool true := hk 73
        have k74 : tm.getD 74 undef = .bool true := hk 74
        have k75 : tm.getD 75 undef = .bool true := hk 75
        have k76 : tm.getD 76 undef = .int .i64 0 := hk 76
        have k77 : tm.getD 77 undef = .bool true := hk 77
        have k78 : tm.getD 78 undef = .bool true := hk 78
        have k79 : tm.getD 79 undef = .int .i64 0 := hk 79
        have k80 : tm.getD 80 undef = .bool true := hk 80
        have k81 : tm.getD 81 undef = .bool true := hk 81
        have k82 : tm.getD 82 undef = .bool true := hk 82
        have k83 : tm.getD 83 undef = undef := hk 83
        have k84 : tm.getD 84 undef = undef := hk 84
        have k85 : tm.getD 85 undef = .bool true := hk 85
        have k86 : tm.getD 86 undef = .bool true := hk 86
        have k87 : tm.getD 87 undef = .bool true := hk 87
        have k88 : tm.getD 88 undef = .int .i64 2 := hk 88
        have k89 : tm.getD 89 undef = .bool true := hk 89
        have k90 : tm.getD 90 undef = .bool true := hk 90
        have k91 : tm.getD 91 undef = .bool true := hk 91
        have k92 : tm.getD 92 undef = .int .i64 H := hk 92
        have k93 : tm.getD 93 undef = .bool true := hk 93
        have k94 : tm.getD 94 undef = .bool true := hk 94
        have k95 : tm.getD 95 undef = undef := hk 95
        have k96 : tm.getD 96 undef = undef := hk 96
        have k97 : tm.getD 97 undef = undef := hk 97
        have k98 : tm.getD 98 undef = undef := hk 98
        have k99 : tm.getD 99 undef = undef := hk 99
        have k100 : tm.getD 100 undef = undef := hk 100
        have k101 : tm.getD 101 undef = .bool true := hk 101
        have k102 : tm.getD 102 undef = .bool true := hk 102
        clear hk hsz
        simp only [Rg.putAll, List.setIfInBounds_toArray, List.set_cons_zero, List.set_cons_succ, k8, k68, k69, k70, k71, k72, k73, k74, k75, k76, k77, k78, k79, k80, k81, k82, k83, k84, k85, k86, k87, k88, k89, k90, k91, k92, k93, k94, k95, k96, k97, k98, k99, k100, k101, k102]
        clear k8
        clear k68
        clear k69
        clear k70
        clear k71
        clear k72
        clear k73
        clear k74
        clear k75
        clear k76
        clear k77
        clear k78
        clear k79
        clear k80
        clear k81
        clear k82
        clear k83
        clear k84
        clear k85
        clear k86
        clear k87
        clear k88
        clear k89
        clear k90
        clear k91
        clear k92
        clear k93
        clear k94
        clear k95
        clear k96
        clear k97
        clear k98
        clear k99
        clear k100
        clear k101
        clear k102
        refine Rg.nil_list ?_

        go_wp2
        go_ret
        exact ⟨rfl, hxe.trans' hR⟩
  · by_cases hH : H = 0
    · subst hH
      have HB := hide (HH.out rfl).1
      have PY := hide fun W => cput_b Y (HH.out rfl).2.1 (by have := (HH.out rfl).2.2.1; omega) (by have := (HH.out rfl).2.2.2; omega) W
      refine Rg.regionT Try.checked.mixed 103 36 (by kernel_rfl) [
        (fun x_ _ => x_ = .int .i64 0),
        (fun x_ _ => x_ = .bool true),
        (fun x_ _ => x_ = .bool true),
        (fun x_ _ => x_ = cv c),
        (fun x_ _ => x_ = cv c),
        (fun x_ _ => x_ = .bool true),
        (fun x_ _ => x_ = .bool true),
        (fun x_ _ => x_ = .bool true),
        (fun x_ _ => x_ = .int .i64 p),
        (fun x_ _ => x_ = .bool false),
        (fun x_ _ => x_ = .bool false),
        (fun x_ _ => x_ = undef),
        (fun x_ _ => x_ = undef),
        (fun x_ _ => x_ = .bool false),
        (fun x_ _ => x_ = .bool false),
        (fun x_ _ => x_ = .int .i64 3),
        (fun x_ _ => x_ = .bool true),
        (fun x_ _ => x_ = .bool true),
        (fun x_ _ => x_ = .bool true),
        (fun x_ _ => x_ = .bool true),
        (fun x_ _ => x_ = .int .i64 2),
        (fun x_ _ => x_ = .bool true),
        (fun x_ _ => x_ = .bool true),
        (fun x_ _ => x_ = .bool true),
        (fun x_ _ => x_ = .int .i64 0),
        (fun x_ _ => x_ = .bool false),
        (fun x_ _ => x_ = .bool false),
        (fun x_ _ => x_ = cv Y),
        (fun v W => Bs W v b),
        (fun x_ _ => x_ = str b),
        (fun x_ _ => x_ = .slice A b.length cx),
        (fun x_ _ => x_ = str b),
        (fun x_ _ => x_ = .bool true),
        (fun x_ _ => x_ = .bool true),
        (fun x_ _ => x_ = .bool true),
        (fun x_ _ => x_ = .bool true)] (fun W => Ext W1 W) Ext rfl rfl rfl
        ?st ((Ext.rfl' W1).drew') ?ob ?en
      case st => exact ⟨fun _ _ _ h _ => h, fun _ _ _ h _ => h, fun _ _ _ h _ => h, fun _ _ _ h _ => h, fun _ _ _ h _ => h, fun _ _ _ h _ => h, fun _ _ _ h _ => h, fun _ _ _ h _ => h, fun _ _ _ h _ => h, fun _ _ _ h _ => h, fun _ _ _ h _ => h, fun _ _ _ h _ => h, fun _ _ _ h _ => h, fun _ _ _ h _ => h, fun _ _ _ h _ => h, fun _ _ _ h _ => h, fun _ _ _ h _ => h, fun _ _ _ h _ => h, fun _ _ _ h _ => h, fun _ _ _ h _ => h, fun _ _ _ h _ => h, fun _ _ _ h _ => h, fun _ _ _ h _ => h, fun _ _ _ h _ => h, fun _ _ _ h _ => h, fun _ _ _ h _ => h, fun _ _ _ h _ => h, fun _ _ _ h _ => h, fun _ _ _ h hx => h.ext hx, fun _ _ _ h _ => h, fun _ _ _ h _ => h, fun _ _ _ h _ => h, fun _ _ _ h _ => h, fun _ _ _ h _ => h, fun _ _ _ h _ => h, fun _ _ _ h _ => h, trivial⟩
      case ob =>
        refine ⟨Rg.at_run [11] rfl ?_, ?_⟩
        · intro ρ W hR ⟨q11, _⟩
          replace q11 : ρ 11 = .int .i64 0 := q11
          refine ⟨rfl, ?_⟩
          exact Rg.run_ok (v := .int .i64 0) (by simp [execOp, Rg.ev, go_sem, q11]) ⟨rfl, hR, Ext.rfl' _⟩
        refine ⟨Rg.at_run [68] rfl ?_, ?_⟩
        · intro ρ W hR ⟨q68, _⟩
          replace q68 : ρ 68 = .int .i64 0 := q68
          refine ⟨rfl, ?_⟩
          exact Rg.run_ok (v := .bool true) (by simp [execOp, Rg.ev, go_sem, q68]) ⟨rfl, hR, Ext.rfl' _⟩
        refine ⟨Rg.at_run [69] rfl ?_, ?_⟩
        · intro ρ W hR ⟨q69, _⟩
          replace q69 : ρ 69 = .bool true := q69
          refine ⟨rfl, ?_⟩
          exact Rg.run_ok (v := .bool true) (by simp [execOp, Rg.ev, go_sem, q69]) ⟨rfl, hR, Ext.rfl' _⟩
        refine ⟨Rg.at_run [10, 70] rfl ?_, ?_⟩
        · intro ρ W hR ⟨q10, q70, _⟩
          replace q10 : ρ 10 = .pointer (some ⟨g2, 0, none⟩) := q10
          replace q70 : ρ 70 = .bool true := q70
          refine ⟨by simp [Rg.wants, q70], ?_⟩
          have c0_ : W.cell? ⟨g2, 0, none⟩ = some (.int .i64 c.kind) := ((hMe.ext hR).cell 0).trans rfl
          have c1_ : W.cell? ⟨g2, 1, none⟩ = some (.int .i64 c.client) := ((hMe.ext hR).cell 1).trans rfl
          have c2_ : W.cell? ⟨g2, 2, none⟩ = some (.int .u64 c.seq) := ((hMe.ext hR).cell 2).trans rfl
          have c3_ : W.cell? ⟨g2, 3, none⟩ = some (str c.name) := ((hMe.ext hR).cell 3).trans rfl
          have c4_ : W.cell? ⟨g2, 4, none⟩ = some (str c.url) := ((hMe.ext hR).cell 4).trans rfl
          have c5_ : W.cell? ⟨g2, 5, none⟩ = some (.int .u64 c.till) := ((hMe.ext hR).cell 5).trans rfl
          exact Rg.run_ok (v := cv c) (by simp [execOp, Rg.ev, go_sem, q10, c0_, c1_, c2_, c3_, c4_, c5_]) ⟨rfl, hR, Ext.rfl' _⟩
        refine ⟨Rg.at_run [4, 70] rfl ?_, ?_⟩
        · intro ρ W hR ⟨q4, q70, _⟩
          replace q4 : ρ 4 = .pointer (some ⟨w.heap.size, 0, none⟩) := q4
          replace q70 : ρ 70 = .bool true := q70
          refine ⟨by simp [Rg.wants, q70], ?_⟩
          have c0_ : W.cell? ⟨w.heap.size, 0, none⟩ = some (.int .i64 c.kind) := ((hLe.ext hR).cell 0).trans rfl
          have c1_ : W.cell? ⟨w.heap.size, 1, none⟩ = some (.int .i64 c.client) := ((hLe.ext hR).cell 1).trans rfl
          have c2_ : W.cell? ⟨w.heap.size, 2, none⟩ = some (.int .u64 c.seq) := ((hLe.ext hR).cell 2).trans rfl
          have c3_ : W.cell? ⟨w.heap.size, 3, none⟩ = some (str c.name) := ((hLe.ext hR).cell 3).trans rfl
          have c4_ : W.cell? ⟨w.heap.size, 4, none⟩ = some (str c.url) := ((hLe.ext hR).cell 4).trans rfl
          have c5_ : W.cell? ⟨w.heap.size, 5, none⟩ = some (.int .u64 c.till) := ((hLe.ext hR).cell 5).trans rfl
          exact Rg.run_ok (v := cv c) (by simp [execOp, Rg.ev, go_sem, q4, c0_, c1_, c2_, c3_, c4_, c5_]) ⟨rfl, hR, Ext.rfl' _⟩
        refine ⟨Rg.at_run [71, 72, 70] rfl ?_, ?_⟩
        · intro ρ W hR ⟨q71, q72, q70, _⟩
          replace q71 : ρ 71 = cv c := q71
          replace q72 : ρ 72 = cv c := q72
          replace q70 : ρ 70 = .bool true := q70
          refine ⟨by simp [Rg.wants, q70], ?_⟩
          have h2 := HE.out W
          exact Rg.run_ok (v := .bool true) (by simp only [execOp, Rg.ev, resolve, Sem.run_bind, Sem.run_pure, Result.andThen_ok, q71, q72]; rw [run_eqGuard_agg W .eql 24 _ _ (ccells c) (ccells c) (by kernel_rfl)]; simp only [Result.andThen_ok, h2]) ⟨rfl, hR, Ext.rfl' _⟩
        refine ⟨Rg.at_run [70, 73] rfl ?_, ?_⟩
        · intro ρ W hR ⟨q70, q73, _⟩
          replace q70 : ρ 70 = .bool true := q70
          replace q73 : ρ 73 = .bool true := q73
          refine ⟨rfl, ?_⟩
          exact Rg.run_ok (v := .bool true) (by simp [execOp, Rg.ev, go_sem, q70, q73]) ⟨rfl, hR, Ext.rfl' _⟩
        refine ⟨Rg.at_run [74] rfl ?_, ?_⟩
        · intro ρ W hR ⟨q74, _⟩
          replace q74 : ρ 74 = .bool true := q74
          refine ⟨rfl, ?_⟩
          exact Rg.run_ok (v := .bool true) (by simp [execOp, Rg.ev, go_sem, q74]) ⟨rfl, hR, Ext.rfl' _⟩
        refine ⟨Rg.at_run [12, 75] rfl ?_, ?_⟩
        · intro ρ W hR ⟨q12, q75, _⟩
          replace q12 : ρ 12 = .int .i64 p := q12
          replace q75 : ρ 75 = .bool true := q75
          refine ⟨by simp [Rg.wants, q75], ?_⟩
          exact Rg.run_ok (v := .int .i64 p) (by simp [execOp, Rg.ev, go_sem, q12]) ⟨rfl, hR, Ext.rfl' _⟩
        refine ⟨Rg.at_run [76, 75] rfl ?_, ?_⟩
        · intro ρ W hR ⟨q76, q75, _⟩
          replace q76 : ρ 76 = .int .i64 p := q76
          replace q75 : ρ 75 = .bool true := q75
          refine ⟨by simp [Rg.wants, q75], ?_⟩
          exact Rg.run_ok (v := .bool false) (by simp [execOp, Rg.ev, go_sem, q76, hp0]) ⟨rfl, hR, Ext.rfl' _⟩
        refine ⟨Rg.at_run [77, 75] rfl ?_, ?_⟩
        · intro ρ W hR ⟨q77, q75, _⟩
          replace q77 : ρ 77 = .bool false := q77
          replace q75 : ρ 75 = .bool true := q75
          refine ⟨by simp [Rg.wants, q75], ?_⟩
          exact Rg.run_ok (v := .bool false) (by simp [execOp, Rg.ev, go_sem, q77]) ⟨rfl, hR, Ext.rfl' _⟩
        refine ⟨Rg.at_skip [14, 78] rfl (by intro ρ W hR ⟨q14, q78, _⟩; replace q14 : ρ 14 = .int .i64 3 := q14; replace q78 : ρ 78 = .bool false := q78; exact ⟨by simp [Rg.wants, q78], rfl, Ext.rfl' _⟩), ?_⟩
        refine ⟨Rg.at_skip [79, 78] rfl (by intro ρ W hR ⟨q79, q78, _⟩; replace q79 : ρ 79 = undef := q79; replace q78 : ρ 78 = .bool false := q78; exact ⟨by simp [Rg.wants, q78], rfl, Ext.rfl' _⟩), ?_⟩
        refine ⟨Rg.at_run [78, 80, 75] rfl ?_, ?_⟩
        · intro ρ W hR ⟨q78, q80, q75, _⟩
          replace q78 : ρ 78 = .bool false := q78
          replace q80 : ρ 80 = undef := q80
          replace q75 : ρ 75 = .bool true := q75
          refine ⟨by simp [Rg.wants, q75], ?_⟩
          exact Rg.run_ok (v := .bool false) (by simp [execOp, Rg.ev, go_sem, q78, q80]) ⟨rfl, hR, Ext.rfl' _⟩
        refine ⟨Rg.at_run [81, 75] rfl ?_, ?_⟩
        · intro ρ W hR ⟨q81, q75, _⟩
          replace q81 : ρ 81 = .bool false := q81
          replace q75 : ρ 75 = .bool true := q75
          refine ⟨by simp [Rg.wants, q75], ?_⟩
          exact Rg.run_ok (v := .bool false) (by simp [execOp, Rg.ev, go_sem, q81]) ⟨rfl, hR, Ext.rfl' _⟩
        refine ⟨Rg.at_run [14, 82] rfl ?_, ?_⟩
        · intro ρ W hR ⟨q14, q82, _⟩
          replace q14 : ρ 14 = .int .i64 3 := q14
          replace q82 : ρ 82 = .bool false := q82
          refine ⟨by simp [Rg.wants, q82], ?_⟩
          exact Rg.run_ok (v := .int .i64 3) (by simp [execOp, Rg.ev, go_sem, q14]) ⟨rfl, hR, Ext.rfl' _⟩
        refine ⟨Rg.at_run [83, 82] rfl ?_, ?_⟩
        · intro ρ W hR ⟨q83, q82, _⟩
          replace q83 : ρ 83 = .int .i64 3 := q83
          replace q82 : ρ 82 = .bool false := q82
          refine ⟨by simp [Rg.wants, q82], ?_⟩
          exact Rg.run_ok (v := .bool true) (by simp [execOp, Rg.ev, go_sem, q83]) ⟨rfl, hR, Ext.rfl' _⟩
        refine ⟨Rg.at_run [82, 84, 75] rfl ?_, ?_⟩
        · intro ρ W hR ⟨q82, q84, q75, _⟩
          replace q82 : ρ 82 = .bool false := q82
          replace q84 : ρ 84 = .bool true := q84
          replace q75 : ρ 75 = .bool true := q75
          refine ⟨by simp [Rg.wants, q75], ?_⟩
          exact Rg.run_ok (v := .bool true) (by simp [execOp, Rg.ev, go_sem, q82, q84]) ⟨rfl, hR, Ext.rfl' _⟩
        refine ⟨Rg.at_run [75, 85] rfl ?_, ?_⟩
        · intro ρ W hR ⟨q75, q85, _⟩
          replace q75 : ρ 75 = .bool true := q75
          replace q85 : ρ 85 = .bool true := q85
          refine ⟨rfl, ?_⟩
          exact Rg.run_ok (v := .bool true) (by simp [execOp, Rg.ev, go_sem, q75, q85]) ⟨rfl, hR, Ext.rfl' _⟩
        refine ⟨Rg.at_run [86] rfl ?_, ?_⟩
        · intro ρ W hR ⟨q86, _⟩
          replace q86 : ρ 86 = .bool true := q86
          refine ⟨rfl, ?_⟩
          exact Rg.run_ok (v := .bool true) (by simp [execOp, Rg.ev, go_sem, q86]) ⟨rfl, hR, Ext.rfl' _⟩
        refine ⟨Rg.at_run [16, 87] rfl ?_, ?_⟩
        · intro ρ W hR ⟨q16, q87, _⟩
          replace q16 : ρ 16 = .int .i64 2 := q16
          replace q87 : ρ 87 = .bool true := q87
          refine ⟨by simp [Rg.wants, q87], ?_⟩
          exact Rg.run_ok (v := .int .i64 2) (by simp [execOp, Rg.ev, go_sem, q16]) ⟨rfl, hR, Ext.rfl' _⟩
        refine ⟨Rg.at_run [88, 87] rfl ?_, ?_⟩
        · intro ρ W hR ⟨q88, q87, _⟩
          replace q88 : ρ 88 = .int .i64 2 := q88
          replace q87 : ρ 87 = .bool true := q87
          refine ⟨by simp [Rg.wants, q87], ?_⟩
          exact Rg.run_ok (v := .bool true) (by simp [execOp, Rg.ev, go_sem, q88]) ⟨rfl, hR, Ext.rfl' _⟩
        refine ⟨Rg.at_run [87, 89] rfl ?_, ?_⟩
        · intro ρ W hR ⟨q87, q89, _⟩
          replace q87 : ρ 87 = .bool true := q87
          replace q89 : ρ 89 = .bool true := q89
          refine ⟨rfl, ?_⟩
          exact Rg.run_ok (v := .bool true) (by simp [execOp, Rg.ev, go_sem, q87, q89]) ⟨rfl, hR, Ext.rfl' _⟩
        refine ⟨Rg.at_run [90] rfl ?_, ?_⟩
        · intro ρ W hR ⟨q90, _⟩
          replace q90 : ρ 90 = .bool true := q90
          refine ⟨rfl, ?_⟩
          exact Rg.run_ok (v := .bool true) (by simp [execOp, Rg.ev, go_sem, q90]) ⟨rfl, hR, Ext.rfl' _⟩
        refine ⟨Rg.at_run [18, 91] rfl ?_, ?_⟩
        · intro ρ W hR ⟨q18, q91, _⟩
          replace q18 : ρ 18 = .int .i64 0 := q18
          replace q91 : ρ 91 = .bool true := q91
          refine ⟨by simp [Rg.wants, q91], ?_⟩
          exact Rg.run_ok (v := .int .i64 0) (by simp [execOp, Rg.ev, go_sem, q18]) ⟨rfl, hR, Ext.rfl' _⟩
        refine ⟨Rg.at_run [92, 91] rfl ?_, ?_⟩
        · intro ρ W hR ⟨q92, q91, _⟩
          replace q92 : ρ 92 = .int .i64 0 := q92
          replace q91 : ρ 91 = .bool true := q91
          refine ⟨by simp [Rg.wants, q91], ?_⟩
          exact Rg.run_ok (v := .bool false) (by simp [execOp, Rg.ev, go_sem, q92]) ⟨rfl, hR, Ext.rfl' _⟩
        refine ⟨Rg.at_run [93, 91] rfl ?_, ?_⟩
        · intro ρ W hR ⟨q93, q91, _⟩
          replace q93 : ρ 93 = .bool false := q93
          replace q91 : ρ 91 = .bool true := q91
          refine ⟨by simp [Rg.wants, q91], ?_⟩
          exact Rg.run_ok (v := .bool false) (by simp [execOp, Rg.ev, go_sem, q93]) ⟨rfl, hR, Ext.rfl' _⟩
        refine ⟨Rg.at_run [17, 94] rfl ?_, ?_⟩
        · intro ρ W hR ⟨q17, q94, _⟩
          replace q17 : ρ 17 = .pointer (some ⟨g5, 0, none⟩) := q17
          replace q94 : ρ 94 = .bool false := q94
          refine ⟨by simp [Rg.wants, q94], ?_⟩
          have c0_ : W.cell? ⟨g5, 0, none⟩ = some (.int .i64 Y.kind) := ((hYe.ext hR).cell 0).trans rfl
          have c1_ : W.cell? ⟨g5, 1, none⟩ = some (.int .i64 Y.client) := ((hYe.ext hR).cell 1).trans rfl
          have c2_ : W.cell? ⟨g5, 2, none⟩ = some (.int .u64 Y.seq) := ((hYe.ext hR).cell 2).trans rfl
          have c3_ : W.cell? ⟨g5, 3, none⟩ = some (str Y.name) := ((hYe.ext hR).cell 3).trans rfl
          have c4_ : W.cell? ⟨g5, 4, none⟩ = some (str Y.url) := ((hYe.ext hR).cell 4).trans rfl
          have c5_ : W.cell? ⟨g5, 5, none⟩ = some (.int .u64 Y.till) := ((hYe.ext hR).cell 5).trans rfl
          exact Rg.run_ok (v := cv Y) (by simp [execOp, Rg.ev, go_sem, q17, c0_, c1_, c2_, c3_, c4_, c5_]) ⟨rfl, hR, Ext.rfl' _⟩
        refine ⟨Rg.at_run [95, 94] rfl ?_, ?_⟩
        · intro ρ W hR ⟨q95, q94, _⟩
          replace q95 : ρ 95 = cv Y := q95
          replace q94 : ρ 94 = .bool false := q94
          refine ⟨by simp [Rg.wants, q94], ?_⟩
          refine Rg.run_enter (by simp [execOp, Rg.ev, go_sem, q95]; exact ⟨⟨rfl, rfl⟩, rfl⟩) ?_
          refine (PY.out W).mono ?_
          rintro e w2 ⟨m, Am, cm, hm, rfl, hz, hxx⟩
          have hm' : m = b := hm.out.trans HB.out
          subst hm'
          exact ⟨_, rfl, hz, hR.trans' hxx, hxx⟩
        refine ⟨Rg.at_run [96, 94] rfl ?_, ?_⟩
        · intro ρ W hR ⟨q96, q94, _⟩
          replace q96 : (fun v W => Bs W v b) (ρ 96) W := q96
          replace q94 : ρ 94 = .bool false := q94
          refine ⟨by simp [Rg.wants, q94], ?_⟩
          have hb : Bs W (ρ 96) b := q96
          have hs := run_str (P := Try.prog) hb Try.underlying25 Try.underlying5 Try.underlying9
          exact Rg.run_ok (v := str b) (by simp only [execOp, Rg.ev, Sem.run_bind, Sem.run_pure, Result.andThen_ok, hs]) ⟨rfl, hR, Ext.rfl' _⟩
        refine ⟨Rg.at_run [3, 94] rfl ?_, ?_⟩
        · intro ρ W hR ⟨q3, q94, _⟩
          replace q3 : ρ 3 = .slice A b.length cx := q3
          replace q94 : ρ 94 = .bool false := q94
          refine ⟨by simp [Rg.wants, q94], ?_⟩
          exact Rg.run_ok (v := .slice A b.length cx) (by simp [execOp, Rg.ev, go_sem, q3]) ⟨rfl, hR, Ext.rfl' _⟩
        refine ⟨Rg.at_run [98, 94] rfl ?_, ?_⟩
        · intro ρ W hR ⟨q98, q94, _⟩
          replace q98 : ρ 98 = .slice A b.length cx := q98
          replace q94 : ρ 94 = .bool false := q94
          refine ⟨by simp [Rg.wants, q94], ?_⟩
          have hb : Bs W (.slice A b.length cx) b := hbe.ext hR
          have hs := run_str (P := Try.prog) hb Try.underlying25 Try.underlying5 Try.underlying9
          exact Rg.run_ok (v := str b) (by simp only [execOp, Rg.ev, Sem.run_bind, Sem.run_pure, Result.andThen_ok, q98, hs]) ⟨rfl, hR, Ext.rfl' _⟩
        refine ⟨Rg.at_run [97, 99, 94] rfl ?_, ?_⟩
        · intro ρ W hR ⟨q97, q99, q94, _⟩
          replace q97 : ρ 97 = str b := q97
          replace q99 : ρ 99 = str b := q99
          replace q94 : ρ 94 = .bool false := q94
          refine ⟨by simp [Rg.wants, q94], ?_⟩
          exact Rg.run_ok (v := .bool true) (by simp [execOp, Rg.ev, go_sem, q97, q99]) ⟨rfl, hR, Ext.rfl' _⟩
        refine ⟨Rg.at_run [94, 100, 91] rfl ?_, ?_⟩
        · intro ρ W hR ⟨q94, q100, q91, _⟩
          replace q94 : ρ 94 = .bool false := q94
          replace q100 : ρ 100 = .bool true := q100
          replace q91 : ρ 91 = .bool true := q91
          refine ⟨by simp [Rg.wants, q91], ?_⟩
          exact Rg.run_ok (v := .bool true) (by simp [execOp, Rg.ev, go_sem, q94, q100]) ⟨rfl, hR, Ext.rfl' _⟩
        refine ⟨Rg.at_run [91, 101] rfl ?_, ?_⟩
        · intro ρ W hR ⟨q91, q101, _⟩
          replace q91 : ρ 91 = .bool true := q91
          replace q101 : ρ 101 = .bool true := q101
          refine ⟨rfl, ?_⟩
          exact Rg.run_ok (v := .bool true) (by simp [execOp, Rg.ev, go_sem, q91, q101]) ⟨rfl, hR, Ext.rfl' _⟩
        refine ⟨Rg.at_run [102] rfl ?_, ?_⟩
        · intro ρ W hR ⟨q102, _⟩
          replace q102 : ρ 102 = .bool true := q102
          refine ⟨rfl, ?_⟩
          exact Rg.run_ok (v := .bool true) (by simp [execOp, Rg.ev, go_sem, q102]) ⟨rfl, hR, Ext.rfl' _⟩
        trivial
      case en =>
        intro tm W hR hsz hk
        rw [Rg.fin_eq (ds := [68, 69, 70, 71, 72, 73, 74, 75, 76, 77, 78, 79, 80, 81, 82, 83, 84, 85, 86, 87, 88, 89, 90, 91, 92, 93, 94, 95, 96, 97, 98, 99, 100, 101, 102, 8]) rfl rfl rfl hsz hk]
        have k8 : tm.getD 8 undef = .bool true := hk 8
        have k68 : tm.getD 68 undef = .int .i64 0 := hk 68
        have k69 : tm.getD 69 undef = .bool true := hk 69
        have k70 : tm.getD 70 undef = .bool true := hk 70
        have k71 : tm.getD 71 undef = cv c := hk 71
        have k72 : tm.getD 72 undef = cv c := hk 72
        have k73 : tm.getD 73 undef = .bool true := hk 73
        have k74 : tm.getD 74 undef = .bool true := hk 74
        have k75 : tm.getD 75 undef = .bool true := hk 75
        have k76 : tm.getD 76 undef = .int .i64 p := hk 76
        have k77 : tm.getD 77 undef = .bool false := hk 77
        have k78 : tm.getD 78 undef = .bool false := hk 78
        have k79 : tm.getD 79 undef = undef := hk 79
        have k80 : tm.getD 80 undef = undef := hk 80
        have k81 : tm.getD 81 undef = .bool false := hk 81
        have k82 : tm.getD 82 undef = .bool false := hk 82
        have k83 : tm.getD 83 undef = .int .i64 3 := hk 83
        have k84 : tm.getD 84 undef = .bool true := hk 84
        have k85 : tm.getD 85 undef = .bool true := hk 85
        have k86 : tm.getD 86 undef = .bool true := hk 86
        have k87 : tm.getD 87 undef = .bool true := hk 87
        have k88 : tm.getD 88 undef = .int .i64 2 := hk 88
        have k89 : tm.getD 89 undef = .bool true := hk 89
        have k90 : tm.getD 90 undef = .bool true := hk 90
        have k91 : tm.getD 91 undef = .bool true := hk 91
        have k92 : tm.getD 92 undef = .int .i64 0 := hk 92
        have k93 : tm.getD 93 undef = .bool false := hk 93
        have k94 : tm.getD 94 undef = .bool false := hk 94
        have k95 : tm.getD 95 undef = cv Y := hk 95
        have k96 : (fun v W => Bs W v b) (tm.getD 96 undef) W := hk 96
        have k97 : tm.getD 97 undef = str b := hk 97
        have k98 : tm.getD 98 undef = .slice A b.length cx := hk 98
        have k99 : tm.getD 99 undef = str b := hk 99
        have k100 : tm.getD 100 undef = .bool true := hk 100
        have k101 : tm.getD 101 undef = .bool true := hk 101
        have k102 : tm.getD 102 undef = .bool true := hk 102
        clear hk hsz
        simp only [Rg.putAll, List.setIfInBounds_toArray, List.set_cons_zero, List.set_cons_succ, k8, k68, k69, k70, k71, k72, k73, k74, k75, k76, k77, k78, k79, k80, k81, k82, k83, k84, k85, k86, k87, k88, k89, k90, k91, k92, k93, k94, k95, k97, k98, k99, k100, k101, k102]
        clear k8
        clear k68
        clear k69
        clear k70
        clear k71
        clear k72
        clear k73
        clear k74
        clear k75
        clear k76
        clear k77
        clear k78
        clear k79
        clear k80
        clear k81
        clear k82
        clear k83
        clear k84
        clear k85
        clear k86
        clear k87
        clear k88
        clear k89
        clear k90
        clear k91
        clear k92
        clear k93
        clear k94
        clear k95
        generalize tm.getD 96 undef = u96 at *
        clear k97
        clear k98
        clear k99
        clear k100
        clear k101
        clear k102
        refine Rg.nil_list ?_

        go_wp2
        go_ret
        exact ⟨rfl, hxe.trans' hR⟩
    · skip
      refine Rg.regionT Try.checked.mixed 103 36 (by kernel_rfl) [
        (fun x_ _ => x_ = .int .i64 0),
        (fun x_ _ => x_ = .bool true),
        (fun x_ _ => x_ = .bool true),
        (fun x_ _ => x_ = cv c),
        (fun x_ _ => x_ = cv c),
        (fun x_ _ => x_ = .bool true),
        (fun x_ _ => x_ = .bool true),
        (fun x_ _ => x_ = .bool true),
        (fun x_ _ => x_ = .int .i64 p),
        (fun x_ _ => x_ = .bool false),
        (fun x_ _ => x_ = .bool false),
        (fun x_ _ => x_ = undef),
        (fun x_ _ => x_ = undef),
        (fun x_ _ => x_ = .bool false),
        (fun x_ _ => x_ = .bool false),
        (fun x_ _ => x_ = .int .i64 3),
        (fun x_ _ => x_ = .bool true),
        (fun x_ _ => x_ = .bool true),
        (fun x_ _ => x_ = .bool true),
        (fun x_ _ => x_ = .bool true),
        (fun x_ _ => x_ = .int .i64 2),
        (fun x_ _ => x_ = .bool true),
        (fun x_ _ => x_ = .bool true),
        (fun x_ _ => x_ = .bool true),
        (fun x_ _ => x_ = .int .i64 H),
        (fun x_ _ => x_ = .bool true),
        (fun x_ _ => x_ = .bool true),
        (fun x_ _ => x_ = undef),
        (fun x_ _ => x_ = undef),
        (fun x_ _ => x_ = undef),
        (fun x_ _ => x_ = undef),
        (fun x_ _ => x_ = undef),
        (fun x_ _ => x_ = undef),
        (fun x_ _ => x_ = .bool true),
        (fun x_ _ => x_ = .bool true),
        (fun x_ _ => x_ = .bool true)] (fun W => Ext W1 W) Ext rfl rfl rfl
        ?st ((Ext.rfl' W1).drew') ?ob ?en
      case st => exact ⟨fun _ _ _ h _ => h, fun _ _ _ h _ => h, fun _ _ _ h _ => h, fun _ _ _ h _ => h, fun _ _ _ h _ => h, fun _ _ _ h _ => h, fun _ _ _ h _ => h, fun _ _ _ h _ => h, fun _ _ _ h _ => h, fun _ _ _ h _ => h, fun _ _ _ h _ => h, fun _ _ _ h _ => h, fun _ _ _ h _ => h, fun _ _ _ h _ => h, fun _ _ _ h _ => h, fun _ _ _ h _ => h, fun _ _ _ h _ => h, fun _ _ _ h _ => h, fun _ _ _ h _ => h, fun _ _ _ h _ => h, fun _ _ _ h _ => h, fun _ _ _ h _ => h, fun _ _ _ h _ => h, fun _ _ _ h _ => h, fun _ _ _ h _ => h, fun _ _ _ h _ => h, fun _ _ _ h _ => h, fun _ _ _ h _ => h, fun _ _ _ h _ => h, fun _ _ _ h _ => h, fun _ _ _ h _ => h, fun _ _ _ h _ => h, fun _ _ _ h _ => h, fun _ _ _ h _ => h, fun _ _ _ h _ => h, fun _ _ _ h _ => h, trivial⟩
      case ob =>
        refine ⟨Rg.at_run [11] rfl ?_, ?_⟩
        · intro ρ W hR ⟨q11, _⟩
          replace q11 : ρ 11 = .int .i64 0 := q11
          refine ⟨rfl, ?_⟩
          exact Rg.run_ok (v := .int .i64 0) (by simp [execOp, Rg.ev, go_sem, q11]) ⟨rfl, hR, Ext.rfl' _⟩
        refine ⟨Rg.at_run [68] rfl ?_, ?_⟩
        · intro ρ W hR ⟨q68, _⟩
          replace q68 : ρ 68 = .int .i64 0 := q68
          refine ⟨rfl, ?_⟩
          exact Rg.run_ok (v := .bool true) (by simp [execOp, Rg.ev, go_sem, q68]) ⟨rfl, hR, Ext.rfl' _⟩
        refine ⟨Rg.at_run [69] rfl ?_, ?_⟩
        · intro ρ W hR ⟨q69, _⟩
          replace q69 : ρ 69 = .bool true := q69
          refine ⟨rfl, ?_⟩
          exact Rg.run_ok (v := .bool true) (by simp [execOp, Rg.ev, go_sem, q69]) ⟨rfl, hR, Ext.rfl' _⟩
        refine ⟨Rg.at_run [10, 70] rfl ?_, ?_⟩
        · intro ρ W hR ⟨q10, q70, _⟩
          replace q10 : ρ 10 = .pointer (some ⟨g2, 0, none⟩) := q10
          replace q70 : ρ 70 = .bool true := q70
          refine ⟨by simp [Rg.wants, q70], ?_⟩
          have c0_ : W.cell? ⟨g2, 0, none⟩ = some (.int .i64 c.kind) := ((hMe.ext hR).cell 0).trans rfl
          have c1_ : W.cell? ⟨g2, 1, none⟩ = some (.int .i64 c.client) := ((hMe.ext hR).cell 1).trans rfl
          have c2_ : W.cell? ⟨g2, 2, none⟩ = some (.int .u64 c.seq) := ((hMe.ext hR).cell 2).trans rfl
          have c3_ : W.cell? ⟨g2, 3, none⟩ = some (str c.name) := ((hMe.ext hR).cell 3).trans rfl
          have c4_ : W.cell? ⟨g2, 4, none⟩ = some (str c.url) := ((hMe.ext hR).cell 4).trans rfl
          have c5_ : W.cell? ⟨g2, 5, none⟩ = some (.int .u64 c.till) := ((hMe.ext hR).cell 5).trans rfl
          exact Rg.run_ok (v := cv c) (by simp [execOp, Rg.ev, go_sem, q10, c0_, c1_, c2_, c3_, c4_, c5_]) ⟨rfl, hR, Ext.rfl' _⟩
        refine ⟨Rg.at_run [4, 70] rfl ?_, ?_⟩
        · intro ρ W hR ⟨q4, q70, _⟩
          replace q4 : ρ 4 = .pointer (some ⟨w.heap.size, 0, none⟩) := q4
          replace q70 : ρ 70 = .bool true := q70
          refine ⟨by simp [Rg.wants, q70], ?_⟩
          have c0_ : W.cell? ⟨w.heap.size, 0, none⟩ = some (.int .i64 c.kind) := ((hLe.ext hR).cell 0).trans rfl
          have c1_ : W.cell? ⟨w.heap.size, 1, none⟩ = some (.int .i64 c.client) := ((hLe.ext hR).cell 1).trans rfl
          have c2_ : W.cell? ⟨w.heap.size, 2, none⟩ = some (.int .u64 c.seq) := ((hLe.ext hR).cell 2).trans rfl
          have c3_ : W.cell? ⟨w.heap.size, 3, none⟩ = some (str c.name) := ((hLe.ext hR).cell 3).trans rfl
          have c4_ : W.cell? ⟨w.heap.size, 4, none⟩ = some (str c.url) := ((hLe.ext hR).cell 4).trans rfl
          have c5_ : W.cell? ⟨w.heap.size, 5, none⟩ = some (.int .u64 c.till) := ((hLe.ext hR).cell 5).trans rfl
          exact Rg.run_ok (v := cv c) (by simp [execOp, Rg.ev, go_sem, q4, c0_, c1_, c2_, c3_, c4_, c5_]) ⟨rfl, hR, Ext.rfl' _⟩
        refine ⟨Rg.at_run [71, 72, 70] rfl ?_, ?_⟩
        · intro ρ W hR ⟨q71, q72, q70, _⟩
          replace q71 : ρ 71 = cv c := q71
          replace q72 : ρ 72 = cv c := q72
          replace q70 : ρ 70 = .bool true := q70
          refine ⟨by simp [Rg.wants, q70], ?_⟩
          have h2 := HE.out W
          exact Rg.run_ok (v := .bool true) (by simp only [execOp, Rg.ev, resolve, Sem.run_bind, Sem.run_pure, Result.andThen_ok, q71, q72]; rw [run_eqGuard_agg W .eql 24 _ _ (ccells c) (ccells c) (by kernel_rfl)]; simp only [Result.andThen_ok, h2]) ⟨rfl, hR, Ext.rfl' _⟩
        refine ⟨Rg.at_run [70, 73] rfl ?_, ?_⟩
        · intro ρ W hR ⟨q70, q73, _⟩
          replace q70 : ρ 70 = .bool true := q70
          replace q73 : ρ 73 = .bool true := q73
          refine ⟨rfl, ?_⟩
          exact Rg.run_ok (v := .bool true) (by simp [execOp, Rg.ev, go_sem, q70, q73]) ⟨rfl, hR, Ext.rfl' _⟩
        refine ⟨Rg.at_run [74] rfl ?_, ?_⟩
        · intro ρ W hR ⟨q74, _⟩
          replace q74 : ρ 74 = .bool true := q74
          refine ⟨rfl, ?_⟩
          exact Rg.run_ok (v := .bool true) (by simp [execOp, Rg.ev, go_sem, q74]) ⟨rfl, hR, Ext.rfl' _⟩
        refine ⟨Rg.at_run [12, 75] rfl ?_, ?_⟩
        · intro ρ W hR ⟨q12, q75, _⟩
          replace q12 : ρ 12 = .int .i64 p := q12
          replace q75 : ρ 75 = .bool true := q75
          refine ⟨by simp [Rg.wants, q75], ?_⟩
          exact Rg.run_ok (v := .int .i64 p) (by simp [execOp, Rg.ev, go_sem, q12]) ⟨rfl, hR, Ext.rfl' _⟩
        refine ⟨Rg.at_run [76, 75] rfl ?_, ?_⟩
        · intro ρ W hR ⟨q76, q75, _⟩
          replace q76 : ρ 76 = .int .i64 p := q76
          replace q75 : ρ 75 = .bool true := q75
          refine ⟨by simp [Rg.wants, q75], ?_⟩
          exact Rg.run_ok (v := .bool false) (by simp [execOp, Rg.ev, go_sem, q76, hp0]) ⟨rfl, hR, Ext.rfl' _⟩
        refine ⟨Rg.at_run [77, 75] rfl ?_, ?_⟩
        · intro ρ W hR ⟨q77, q75, _⟩
          replace q77 : ρ 77 = .bool false := q77
          replace q75 : ρ 75 = .bool true := q75
          refine ⟨by simp [Rg.wants, q75], ?_⟩
          exact Rg.run_ok (v := .bool false) (by simp [execOp, Rg.ev, go_sem, q77]) ⟨rfl, hR, Ext.rfl' _⟩
        refine ⟨Rg.at_skip [14, 78] rfl (by intro ρ W hR ⟨q14, q78, _⟩; replace q14 : ρ 14 = .int .i64 3 := q14; replace q78 : ρ 78 = .bool false := q78; exact ⟨by simp [Rg.wants, q78], rfl, Ext.rfl' _⟩), ?_⟩
        refine ⟨Rg.at_skip [79, 78] rfl (by intro ρ W hR ⟨q79, q78, _⟩; replace q79 : ρ 79 = undef := q79; replace q78 : ρ 78 = .bool false := q78; exact ⟨by simp [Rg.wants, q78], rfl, Ext.rfl' _⟩), ?_⟩
        refine ⟨Rg.at_run [78, 80, 75] rfl ?_, ?_⟩
        · intro ρ W hR ⟨q78, q80, q75, _⟩
          replace q78 : ρ 78 = .bool false := q78
          replace q80 : ρ 80 = undef := q80
          replace q75 : ρ 75 = .bool true := q75
          refine ⟨by simp [Rg.wants, q75], ?_⟩
          exact Rg.run_ok (v := .bool false) (by simp [execOp, Rg.ev, go_sem, q78, q80]) ⟨rfl, hR, Ext.rfl' _⟩
        refine ⟨Rg.at_run [81, 75] rfl ?_, ?_⟩
        · intro ρ W hR ⟨q81, q75, _⟩
          replace q81 : ρ 81 = .bool false := q81
          replace q75 : ρ 75 = .bool true := q75
          refine ⟨by simp [Rg.wants, q75], ?_⟩
          exact Rg.run_ok (v := .bool false) (by simp [execOp, Rg.ev, go_sem, q81]) ⟨rfl, hR, Ext.rfl' _⟩
        refine ⟨Rg.at_run [14, 82] rfl ?_, ?_⟩
        · intro ρ W hR ⟨q14, q82, _⟩
          replace q14 : ρ 14 = .int .i64 3 := q14
          replace q82 : ρ 82 = .bool false := q82
          refine ⟨by simp [Rg.wants, q82], ?_⟩
          exact Rg.run_ok (v := .int .i64 3) (by simp [execOp, Rg.ev, go_sem, q14]) ⟨rfl, hR, Ext.rfl' _⟩
        refine ⟨Rg.at_run [83, 82] rfl ?_, ?_⟩
        · intro ρ W hR ⟨q83, q82, _⟩
          replace q83 : ρ 83 = .int .i64 3 := q83
          replace q82 : ρ 82 = .bool false := q82
          refine ⟨by simp [Rg.wants, q82], ?_⟩
          exact Rg.run_ok (v := .bool true) (by simp [execOp, Rg.ev, go_sem, q83]) ⟨rfl, hR, Ext.rfl' _⟩
        refine ⟨Rg.at_run [82, 84, 75] rfl ?_, ?_⟩
        · intro ρ W hR ⟨q82, q84, q75, _⟩
          replace q82 : ρ 82 = .bool false := q82
          replace q84 : ρ 84 = .bool true := q84
          replace q75 : ρ 75 = .bool true := q75
          refine ⟨by simp [Rg.wants, q75], ?_⟩
          exact Rg.run_ok (v := .bool true) (by simp [execOp, Rg.ev, go_sem, q82, q84]) ⟨rfl, hR, Ext.rfl' _⟩
        refine ⟨Rg.at_run [75, 85] rfl ?_, ?_⟩
        · intro ρ W hR ⟨q75, q85, _⟩
          replace q75 : ρ 75 = .bool true := q75
          replace q85 : ρ 85 = .bool true := q85
          refine ⟨rfl, ?_⟩
          exact Rg.run_ok (v := .bool true) (by simp [execOp, Rg.ev, go_sem, q75, q85]) ⟨rfl, hR, Ext.rfl' _⟩
        refine ⟨Rg.at_run [86] rfl ?_, ?_⟩
        · intro ρ W hR ⟨q86, _⟩
          replace q86 : ρ 86 = .bool true := q86
          refine ⟨rfl, ?_⟩
          exact Rg.run_ok (v := .bool true) (by simp [execOp, Rg.ev, go_sem, q86]) ⟨rfl, hR, Ext.rfl' _⟩
        refine ⟨Rg.at_run [16, 87] rfl ?_, ?_⟩
        · intro ρ W hR ⟨q16, q87, _⟩
          replace q16 : ρ 16 = .int .i64 2 := q16
          replace q87 : ρ 87 = .bool true := q87
          refine ⟨by simp [Rg.wants, q87], ?_⟩
          exact Rg.run_ok (v := .int .i64 2) (by simp [execOp, Rg.ev, go_sem, q16]) ⟨rfl, hR, Ext.rfl' _⟩
        refine ⟨Rg.at_run [88, 87] rfl ?_, ?_⟩
        · intro ρ W hR ⟨q88, q87, _⟩
          replace q88 : ρ 88 = .int .i64 2 := q88
          replace q87 : ρ 87 = .bool true := q87
          refine ⟨by simp [Rg.wants, q87], ?_⟩
          exact Rg.run_ok (v := .bool true) (by simp [execOp, Rg.ev, go_sem, q88]) ⟨rfl, hR, Ext.rfl' _⟩
        refine ⟨Rg.at_run [87, 89] rfl ?_, ?_⟩
        · intro ρ W hR ⟨q87, q89, _⟩
          replace q87 : ρ 87 = .bool true := q87
          replace q89 : ρ 89 = .bool true := q89
          refine ⟨rfl, ?_⟩
          exact Rg.run_ok (v := .bool true) (by simp [execOp, Rg.ev, go_sem, q87, q89]) ⟨rfl, hR, Ext.rfl' _⟩
        refine ⟨Rg.at_run [90] rfl ?_, ?_⟩
        · intro ρ W hR ⟨q90, _⟩
          replace q90 : ρ 90 = .bool true := q90
          refine ⟨rfl, ?_⟩
          exact Rg.run_ok (v := .bool true) (by simp [execOp, Rg.ev, go_sem, q90]) ⟨rfl, hR, Ext.rfl' _⟩
        refine ⟨Rg.at_run [18, 91] rfl ?_, ?_⟩
        · intro ρ W hR ⟨q18, q91, _⟩
          replace q18 : ρ 18 = .int .i64 H := q18
          replace q91 : ρ 91 = .bool true := q91
          refine ⟨by simp [Rg.wants, q91], ?_⟩
          exact Rg.run_ok (v := .int .i64 H) (by simp [execOp, Rg.ev, go_sem, q18]) ⟨rfl, hR, Ext.rfl' _⟩
        refine ⟨Rg.at_run [92, 91] rfl ?_, ?_⟩
        · intro ρ W hR ⟨q92, q91, _⟩
          replace q92 : ρ 92 = .int .i64 H := q92
          replace q91 : ρ 91 = .bool true := q91
          refine ⟨by simp [Rg.wants, q91], ?_⟩
          exact Rg.run_ok (v := .bool true) (by simp [execOp, Rg.ev, go_sem, q92, hH]) ⟨rfl, hR, Ext.rfl' _⟩
        refine ⟨Rg.at_run [93, 91] rfl ?_, ?_⟩
        · intro ρ W hR ⟨q93, q91, _⟩
          replace q93 : ρ 93 = .bool true := q93
          replace q91 : ρ 91 = .bool true := q91
          refine ⟨by simp [Rg.wants, q91], ?_⟩
          exact Rg.run_ok (v := .bool true) (by simp [execOp, Rg.ev, go_sem, q93]) ⟨rfl, hR, Ext.rfl' _⟩
        refine ⟨Rg.at_skip [17, 94] rfl (by intro ρ W hR ⟨q17, q94, _⟩; replace q17 : ρ 17 = .pointer (some ⟨g5, 0, none⟩) := q17; replace q94 : ρ 94 = .bool true := q94; exact ⟨by simp [Rg.wants, q94], rfl, Ext.rfl' _⟩), ?_⟩
        refine ⟨Rg.at_skip [95, 94] rfl (by intro ρ W hR ⟨q95, q94, _⟩; replace q95 : ρ 95 = undef := q95; replace q94 : ρ 94 = .bool true := q94; exact ⟨by simp [Rg.wants, q94], rfl, Ext.rfl' _⟩), ?_⟩
        refine ⟨Rg.at_skip [96, 94] rfl (by intro ρ W hR ⟨q96, q94, _⟩; replace q96 : ρ 96 = undef := q96; replace q94 : ρ 94 = .bool true := q94; exact ⟨by simp [Rg.wants, q94], rfl, Ext.rfl' _⟩), ?_⟩
        refine ⟨Rg.at_skip [3, 94] rfl (by intro ρ W hR ⟨q3, q94, _⟩; replace q3 : ρ 3 = .slice A b.length cx := q3; replace q94 : ρ 94 = .bool true := q94; exact ⟨by simp [Rg.wants, q94], rfl, Ext.rfl' _⟩), ?_⟩
        refine ⟨Rg.at_skip [98, 94] rfl (by intro ρ W hR ⟨q98, q94, _⟩; replace q98 : ρ 98 = undef := q98; replace q94 : ρ 94 = .bool true := q94; exact ⟨by simp [Rg.wants, q94], rfl, Ext.rfl' _⟩), ?_⟩
        refine ⟨Rg.at_skip [97, 99, 94] rfl (by intro ρ W hR ⟨q97, q99, q94, _⟩; replace q97 : ρ 97 = undef := q97; replace q99 : ρ 99 = undef := q99; replace q94 : ρ 94 = .bool true := q94; exact ⟨by simp [Rg.wants, q94], rfl, Ext.rfl' _⟩), ?_⟩
        refine ⟨Rg.at_run [94, 100, 91] rfl ?_, ?_⟩
        · intro ρ W hR ⟨q94, q100, q91, _⟩
          replace q94 : ρ 94 = .bool true := q94
          replace q100 : ρ 100 = undef := q100
          replace q91 : ρ 91 = .bool true := q91
          refine ⟨by simp [Rg.wants, q91], ?_⟩
          exact Rg.run_ok (v := .bool true) (by simp [execOp, Rg.ev, go_sem, q94, q100]) ⟨rfl, hR, Ext.rfl' _⟩
        refine ⟨Rg.at_run [91, 101] rfl ?_, ?_⟩
        · intro ρ W hR ⟨q91, q101, _⟩
          replace q91 : ρ 91 = .bool true := q91
          replace q101 : ρ 101 = .bool true := q101
          refine ⟨rfl, ?_⟩
          exact Rg.run_ok (v := .bool true) (by simp [execOp, Rg.ev, go_sem, q91, q101]) ⟨rfl, hR, Ext.rfl' _⟩
        refine ⟨Rg.at_run [102] rfl ?_, ?_⟩
        · intro ρ W hR ⟨q102, _⟩
          replace q102 : ρ 102 = .bool true := q102
          refine ⟨rfl, ?_⟩
          exact Rg.run_ok (v := .bool true) (by simp [execOp, Rg.ev, go_sem, q102]) ⟨rfl, hR, Ext.rfl' _⟩
        trivial
      case en =>
        intro tm W hR hsz hk
        rw [Rg.fin_eq (ds := [68, 69, 70, 71, 72, 73, 74, 75, 76, 77, 78, 79, 80, 81, 82, 83, 84, 85, 86, 87, 88, 89, 90, 91, 92, 93, 94, 95, 96, 97, 98, 99, 100, 101, 102, 8]) rfl rfl rfl hsz hk]
        have k8 : tm.getD 8 undef = .bool true := hk 8
        have k68 : tm.getD 68 undef = .int .i64 0 := hk 68
        have k69 : tm.getD 69 undef = .bool true := hk 69
        have k70 : tm.getD 70 undef = .bool true := hk 70
        have k71 : tm.getD 71 undef = cv c := hk 71
        have k72 : tm.getD 72 undef = cv c := hk 72
        have k73 : tm.getD 73 undef = .bool true := hk 73
        have k74 : tm.getD 74 undef = .bool true := hk 74
        have k75 : tm.getD 75 undef = .bool true := hk 75
        have k76 : tm.getD 76 undef = .int .i64 p := hk 76
        have k77 : tm.getD 77 undef = .bool false := hk 77
        have k78 : tm.getD 78 undef = .bool false := hk 78
        have k79 : tm.getD 79 undef = undef := hk 79
        have k80 : tm.getD 80 undef = undef := hk 80
        have k81 : tm.getD 81 undef = .bool false := hk 81
        have k82 : tm.getD 82 undef = .bool false := hk 82
        have k83 : tm.getD 83 undef = .int .i64 3 := hk 83
        have k84 : tm.getD 84 undef = .bool true := hk 84
        have k85 : tm.getD 85 undef = .bool true := hk 85
        have k86 : tm.getD 86 undef = .bool true := hk 86
        have k87 : tm.getD 87 undef = .bool true := hk 87
        have k88 : tm.getD 88 undef = .int .i64 2 := hk 88
        have k89 : tm.getD 89 undef = .bool true := hk 89
        have k90 : tm.getD 90 undef = .bool true := hk 90
        have k91 : tm.getD 91 undef = .bool true := hk 91
        have k92 : tm.getD 92 undef = .int .i64 H := hk 92
        have k93 : tm.getD 93 undef = .bool true := hk 93
        have k94 : tm.getD 94 undef = .bool true := hk 94
        have k95 : tm.getD 95 undef = undef := hk 95
        have k96 : tm.getD 96 undef = undef := hk 96
        have k97 : tm.getD 97 undef = undef := hk 97
        have k98 : tm.getD 98 undef = undef := hk 98
        have k99 : tm.getD 99 undef = undef := hk 99
        have k100 : tm.getD 100 undef = undef := hk 100
        have k101 : tm.getD 101 undef = .bool true := hk 101
        have k102 : tm.getD 102 undef = .bool true := hk 102
        clear hk hsz
        simp only [Rg.putAll, List.setIfInBounds_toArray, List.set_cons_zero, List.set_cons_succ, k8, k68, k69, k70, k71, k72, k73, k74, k75, k76, k77, k78, k79, k80, k81, k82, k83, k84, k85, k86, k87, k88, k89, k90, k91, k92, k93, k94, k95, k96, k97, k98, k99, k100, k101, k102]
        clear k8
        clear k68
        clear k69
        clear k70
        clear k71
        clear k72
        clear k73
        clear k74
        clear k75
        clear k76
        clear k77
        clear k78
        clear k79
        clear k80
        clear k81
        clear k82
        clear k83
        clear k84
        clear k85
        clear k86
        clear k87
        clear k88
        clear k89
        clear k90
        clear k91
        clear k92
        clear k93
        clear k94
        clear k95
        clear k96
        clear k97
        clear k98
        clear k99
        clear k100
        clear k101
        clear k102
        refine Rg.nil_list ?_

        go_wp2
        go_ret
        exact ⟨rfl, hxe.trans' hR⟩
end Go.Proofs.Ytccpbchcfgggmaa
