/- A part of the proof of 'MsgAll'. -/
import Derived.Test.YtlblgopfdadalaaM19
import Derived.Test.YtlblgopfdadalaaM11
import Derived.Deep.MidRow
import Derived.Test.YtlblgopfdadalaaM13
namespace Go.Proofs.Ytlblgopfdadalaa
set_option linter.unusedVariables false
set_option linter.unusedSimpArgs false
set_option linter.unnecessarySimpa false
set_option maxRecDepth 100000
open Go.RowKit
theorem mg_one (m : Mg) (A B : Option Addr) (n c k d : Nat) : (mgcells m (.slice A n c) (.slice B k d)).toArray.all (·.oneCell') = true := by simp [Value.oneCell', str]
set_option maxHeartbeats 1600000 in
theorem mtake_b (x : Value) (b : Bytes) (w : World) (hl : b.length ≤ 140737488350000) (hx : Bs w x b) :
    Calls Try.prog 8 #[x] w fun e w' => ∃ ve vs, e = .returned (.tuple #[.agg (mgcells (mtake b).1 ve vs).toArray, .int .i64 (mtake b).2]) ∧ Enc.Sl enE w' noneAt ve (mtake b).1.ents ∧ Bs w' vs (mtake b).1.snap.state ∧ Ext w w' := by
  obtain ⟨A, c, rfl, h1, h2, h3⟩ := id hx
  obtain ⟨gr, hgr⟩ : ∃ gr, w.heap.size = gr := ⟨_, rfl⟩
  have a0 := Blk.new w 33 (mgcells Mg0 (.slice none 0 0) (.slice none 0 0)).toArray
  rw [hgr] at a0
  obtain ⟨m, s, hP⟩ : ∃ m s, msgC.all (b, 0) = (m, s) := ⟨_, _, rfl⟩
  have HC : Hid (mtake b = if s.2 = 0 then (m, 0) else (Mg0, s.2)) := by unfold Hid mtake; rw [hP]
  have hall := fun W g v h => mall_b g v b W h
  rw [hP] at hall
  simp only at hall
  have HA := hide hall
  clear hall hP
  have hM : MAt ((w.alloc (.cells (mgcells Mg0 (.slice none 0 0) (.slice none 0 0)).toArray 33)).alloc (.cells (.slice A b.length c :: .int .i64 0 :: mgcells Mg0 (.slice none 0 0) (.slice none 0 0)).toArray 79)) (gr + 1) (.slice A b.length c) (b, 0) (mgcells Mg0 (.slice none 0 0) (.slice none 0 0)) := by
    refine ⟨?_, hx.ext (((Ext.rfl' w).alloc' _).alloc' _), hx.off (by simp; omega), hl⟩
    have hbs : (w.alloc (.cells (mgcells Mg0 (.slice none 0 0) (.slice none 0 0)).toArray 33)).heap.size = gr + 1 := by simp [hgr]
    have := Blk.new (w.alloc (.cells (mgcells Mg0 (.slice none 0 0) (.slice none 0 0)).toArray 33)) 79 (.slice A b.length c :: .int .i64 0 :: mgcells Mg0 (.slice none 0 0) (.slice none 0 0)).toArray
    rwa [hbs] at this
  have hxa : Ext w ((w.alloc (.cells (mgcells Mg0 (.slice none 0 0) (.slice none 0 0)).toArray 33)).alloc (.cells (.slice A b.length c :: .int .i64 0 :: mgcells Mg0 (.slice none 0 0) (.slice none 0 0)).toArray 79)) := ((Ext.rfl' w).alloc' _).alloc' _
  have a1 := a0.alloc (.cells (.slice A b.length c :: .int .i64 0 :: mgcells Mg0 (.slice none 0 0) (.slice none 0 0)).toArray 79)
  clear a0
  go_enter Try.func8, Try.ntmps8
  go_upto_region 2 with fail
  change Code.wp _ _ _ _ ((w.alloc (.cells (mgcells Mg0 (.slice none 0 0) (.slice none 0 0)).toArray 33)).alloc (.cells (.slice A b.length c :: .int .i64 0 :: mgcells Mg0 (.slice none 0 0) (.slice none 0 0)).toArray 79))
  generalize (w.alloc _).alloc _ = W0 at *
  go_wp2_with fail
  refine (HA.out _ _ _ hM).mono ?_
  rintro e W1 ⟨rfl, ve, v1, vs, r1, hve, hvs, c1, -⟩
  obtain ⟨Ae, ce, rfl, -, -⟩ := hve.form
  obtain ⟨As, cs, rfl, -, -, -⟩ := id hvs.1
  have b1 := a1.chg c1 (by simp)
  have hx1 : Ext w W1 := hxa.then_ c1 (by simp; omega)
  have hgs : gr < W1.heap.size := b1.lt
  have hne : gr ≠ gr + 1 := by omega
  have Q : ∀ (W2 : World), Chg [gr] W1 W2 → Enc.Sl enE W2 noneAt (.slice Ae m.ents.length ce) m.ents ∧ Bs W2 (.slice As m.snap.state.length cs) m.snap.state ∧ Ext w W2 := by
    intro W2 hc
    refine ⟨(hve.chg hc fun k hk _ => .inr ?_).mono fun _ _ h => h.elim, (hvs.chg hc fun k hk _ => .inr ?_).1, hx1.then_ hc (by simp [hgr])⟩
    · simp only [List.mem_singleton] at hk
      rw [hk]; exact a1.lt
    · simp only [List.mem_singleton] at hk
      rw [hk]; exact a1.lt
  obtain ⟨b2, e2⟩ := s
  have y1 : W1.cell? ⟨gr + 1, 1, none⟩ = some (.int .i64 e2) := r1.c1
  simp only at HC
  by_cases he : e2 = 0
  · subst he
    have HQ : Hid (mtake b = (m, 0)) := hide (by have := HC.out; simpa using this)
    go_upto_region 5 with fail
    have hRange : W1.rangeAt (gr + 1) 2 (mgcells m (.slice Ae m.ents.length ce) (.slice As m.snap.state.length cs)) := fun j v hv => by rw [Nat.add_comm 2 j, r1.cell j]; exact hv
    go_wp2_with (first | refine wpList_load_mid rfl 33 _ rfl (gr + 1) 2 rfl (mgcells m (.slice Ae m.ents.length ce) (.slice As m.snap.state.length cs)) _ hRange Try.underlying33 rfl (by kernel_rfl) ?_ | refine wpList_store_row rfl 33 _ _ rfl gr (mgcells m (.slice Ae m.ents.length ce) (.slice As m.snap.state.length cs)).toArray rfl rfl 33 _ b1 (by kernel_rfl) (by simp) (mg_one _ _ _ _ _ _ _) ?_)
    try simp only [Exit.inBlock, Exit.then]
    refine bodyPost_ret (results_cell2 rfl _ _ gr 33 (mgcells m (.slice Ae m.ents.length ce) (.slice As m.snap.state.length cs)).toArray (0, 0) _ rfl (b1.row _) Try.underlying33 rfl (by kernel_rfl)) rfl ?_
    rw [HQ.out]
    refine ⟨.slice Ae m.ents.length ce, .slice As m.snap.state.length cs, ?_, ?_⟩
    · rfl
    · exact Q _ ((Chg.refl [gr] W1).row (by simp) _)
  · have HQ : Hid (mtake b = (Mg0, e2)) := hide (by have := HC.out; rw [if_neg he] at this; exact this)
    go_upto_region 4 with fail
    refine Rg.regionW Try.checked.mixed 27 8 (by kernel_rfl) [
      (false, (fun x_ _ => x_ = .agg (mgcells Mg0 (.slice none 0 0) (.slice none 0 0)).toArray)),
      (false, (fun x_ _ => x_ = .pointer (some ⟨gr + 1, 0, none⟩))),
      (false, (fun x_ _ => x_ = .pointer (some ⟨gr + 1, 0, none⟩))),
      (false, (fun x_ _ => x_ = .pointer (some ⟨gr + 1, 0, none⟩))),
      (false, (fun x_ _ => x_ = .pointer (some ⟨gr + 1, 1, none⟩))),
      (false, (fun x_ _ => x_ = .int .i64 e2)),
      (true, (fun x_ _ => x_ = undef)),
      (false, (fun x_ _ => x_ = .int .i64 e2))] (by kernel_rfl) (fun _ W => Chg [gr] W1 W ∧ Blk W gr 33 (mgcells Mg0 (.slice none 0 0) (.slice none 0 0)).toArray) (fun W W2 => Chg [gr] W W2) rfl rfl rfl
      ?st ⟨(Chg.refl [gr] W1).drew, b1.ext ((Ext.rfl' _).drew')⟩ ?ob ?en
    case st => exact ⟨fun _ _ _ h _ => h, fun _ _ _ h _ => h, fun _ _ _ h _ => h, fun _ _ _ h _ => h, fun _ _ _ h _ => h, fun _ _ _ h _ => h, fun _ _ _ h _ => h, fun _ _ _ h _ => h, trivial⟩
    case ob =>
      refine ⟨fun i => Rg.at_runW [] rfl ?_, ?_⟩
      · intro ρ W hR _
        refine ⟨rfl, ?_⟩
        exact Rg.run_ok (v := .agg (mgcells Mg0 (.slice none 0 0) (.slice none 0 0)).toArray) (by simp [execOp, Rg.ev, go_sem]; repeat' constructor) ⟨rfl, hR, Chg.refl _ _⟩
      refine ⟨fun i => Rg.at_runW [4] rfl ?_, ?_⟩
      · intro ρ W hR ⟨q4, _⟩
        replace q4 : ρ 4 = .pointer (some ⟨gr + 1, 0, none⟩) := q4
        refine ⟨rfl, ?_⟩
        exact Rg.run_ok (v := .pointer (some ⟨gr + 1, 0, none⟩)) (by simp [execOp, Rg.ev, go_sem, q4]) ⟨rfl, hR, Chg.refl _ _⟩
      refine ⟨fun i => Rg.at_runW [18] rfl ?_, ?_⟩
      · intro ρ W hR ⟨q18, _⟩
        replace q18 : ρ 18 = .pointer (some ⟨gr + 1, 0, none⟩) := q18
        refine ⟨rfl, ?_⟩
        exact Rg.run_ok (v := .pointer (some ⟨gr + 1, 0, none⟩)) (by simp [execOp, Rg.ev, go_sem, q18]) ⟨rfl, hR, Chg.refl _ _⟩
      refine ⟨fun i => Rg.at_runW [19] rfl ?_, ?_⟩
      · intro ρ W hR ⟨q19, _⟩
        replace q19 : ρ 19 = .pointer (some ⟨gr + 1, 0, none⟩) := q19
        refine ⟨rfl, ?_⟩
        exact Rg.run_ok (v := .pointer (some ⟨gr + 1, 0, none⟩)) (by simp [execOp, Rg.ev, go_sem, q19]) ⟨rfl, hR, Chg.refl _ _⟩
      refine ⟨fun i => Rg.at_runW [20] rfl ?_, ?_⟩
      · intro ρ W hR ⟨q20, _⟩
        replace q20 : ρ 20 = .pointer (some ⟨gr + 1, 0, none⟩) := q20
        refine ⟨rfl, ?_⟩
        exact Rg.run_ok (v := .pointer (some ⟨gr + 1, 1, none⟩)) (by simp [execOp, Rg.ev, go_sem, q20]) ⟨rfl, hR, Chg.refl _ _⟩
      refine ⟨fun i => Rg.at_runW [21] rfl ?_, ?_⟩
      · intro ρ W hR ⟨q21, _⟩
        replace q21 : ρ 21 = .pointer (some ⟨gr + 1, 1, none⟩) := q21
        refine ⟨rfl, ?_⟩
        have c_ : W.cell? ⟨gr + 1, 1, none⟩ = some (.int .i64 e2) := (hR.1.cell (by exact r1.blk.lt) (by simp)).trans r1.c1
        exact Rg.run_ok (v := .int .i64 e2) (by simp [execOp, Rg.ev, go_sem, q21, c_]) ⟨rfl, hR, Chg.refl _ _⟩
      refine ⟨Rg.at_runW [2, 17] rfl ?_, ?_⟩
      · intro ρ W hR ⟨q2, q17, _⟩
        replace q2 : ρ 2 = .pointer (some ⟨gr, 0, none⟩) := q2
        replace q17 : ρ 17 = .agg (mgcells Mg0 (.slice none 0 0) (.slice none 0 0)).toArray := q17
        refine ⟨rfl, ?_⟩
        refine Rg.run_skip (W' := W.setRow gr (mgcells Mg0 (.slice none 0 0) (.slice none 0 0)).toArray) ?_ ⟨rfl, ⟨hR.1.row (by simp) _, hR.2.row _⟩, (Chg.refl _ _).row (by simp) _⟩
        simp only [execOp, Rg.ev, q2, q17, Instr.storeAt, Instr.sureAddr, Sem.run_bind, Sem.run_pure, Result.andThen_ok, run_storeVar_row (P := Try.prog) W gr 33 33 _ (mgcells Mg0 (.slice none 0 0) (.slice none 0 0)).toArray hR.2 (by kernel_rfl) rfl (mg_one _ _ _ _ _ _ _)]
      refine ⟨fun i => Rg.at_runW [22] rfl ?_, ?_⟩
      · intro ρ W hR ⟨q22, _⟩
        replace q22 : ρ 22 = .int .i64 e2 := q22
        refine ⟨rfl, ?_⟩
        exact Rg.run_ok (v := .int .i64 e2) (by simp [execOp, Rg.ev, go_sem, q22]) ⟨rfl, hR, Chg.refl _ _⟩
      trivial
    case en =>
      intro tm W hR hsz hk
      rw [Rg.fin_eq (ds := [17, 18, 19, 20, 21, 22, 3]) rfl rfl rfl hsz hk]
      have k3 : tm.getD 3 undef = .int .i64 e2 := hk 3
      have k17 : tm.getD 17 undef = .agg (mgcells Mg0 (.slice none 0 0) (.slice none 0 0)).toArray := hk 17
      have k18 : tm.getD 18 undef = .pointer (some ⟨gr + 1, 0, none⟩) := hk 18
      have k19 : tm.getD 19 undef = .pointer (some ⟨gr + 1, 0, none⟩) := hk 19
      have k20 : tm.getD 20 undef = .pointer (some ⟨gr + 1, 0, none⟩) := hk 20
      have k21 : tm.getD 21 undef = .pointer (some ⟨gr + 1, 1, none⟩) := hk 21
      have k22 : tm.getD 22 undef = .int .i64 e2 := hk 22
      clear hk hsz
      simp only [Rg.putAll, List.setIfInBounds_toArray, List.set_cons_zero, List.set_cons_succ, k3, k17, k18, k19, k20, k21, k22]
      clear k3
      clear k17
      clear k18
      clear k19
      clear k20
      clear k21
      clear k22
      refine Rg.nil_list ?_
      obtain ⟨hc2, b2⟩ := hR
      go_wp2
      try simp only [Exit.inBlock, Exit.then]
      refine bodyPost_ret (results_cell2 rfl _ _ gr 33 (mgcells Mg0 (.slice none 0 0) (.slice none 0 0)).toArray (0, 0) _ rfl b2 Try.underlying33 rfl (by kernel_rfl)) rfl ?_
      rw [HQ.out]
      exact ⟨_, _, rfl, Enc.Sl.nil _ _ _, Bs.nil _, hx1.then_ hc2 (by simp [hgr])⟩
end Go.Proofs.Ytlblgopfdadalaa
namespace Go.Proofs.Ytlblgopfdadalaa
set_option linter.unusedVariables false
set_option linter.unusedSimpArgs false
set_option linter.unnecessarySimpa false
set_option maxRecDepth 100000
open Go.RowKit
theorem Mg.okC {m : Mg} (hw : m.wide) (hl : m.light) (k1 : 1 ≤ m.kind) (k7 : m.kind ≤ 7) (he : m.an.err ≤ 16) (hc : m.cmd.kind ≠ 0 ∨ m.cmd = Cm.zero) (ht : ∀ e ∈ m.ents, U64 e.term) : msgC.ok m := by
  have e1 : (256 : Int) ^ 1 = 256 := rfl
  have e8 : (256 : Int) ^ 8 = 18446744073709551616 := rfl
  have hok : m.cmd.ok := ⟨hl.ck0, hl.ck1, hl.cc0, hl.cc1, hw.cmd.s0, hw.cmd.s1, by have := hl.name; omega, by have := hl.url; omega, hw.cmd.t0, hw.cmd.t1⟩
  have u8 : ∀ v : Int, U64 v → 0 ≤ v ∧ v < 256 ^ 8 := fun v h => ⟨h.1, by rw [e8]; have := h.2; omega⟩
  have hen : ∀ e ∈ m.ents, Cod.ent.ok e := fun e h => ⟨u8 _ (ht e h), by have := hl.datas e h; show e.data.length ≤ 4294967295; omega⟩
  have hcl := cput_len3 m.cmd hl.name hl.url
  refine ⟨⟨⟨by show 0 ≤ m.kind; omega, by show m.kind < 256 ^ 1; rw [e1]; omega⟩, decide_eq_false (by show ¬ (m.kind < 1 ∨ 7 < m.kind); omega)⟩, ⟨hl.f0, hl.f1⟩, ⟨hl.o0, hl.o1⟩, u8 _ hw.term, u8 _ hw.index, u8 _ hw.logTerm, u8 _ hw.commit, u8 _ hw.round, trivial,
    ⟨by have := hl.ents; show m.ents.length < 65536; omega, hen⟩, ⟨u8 _ hw.si, u8 _ hw.st, by have := hl.state; show m.snap.state.length ≤ 4294967295; omega⟩, ⟨hok, hc, by show (cput m.cmd).length ≤ 4294967295; omega⟩,
    ⟨⟨by show 0 ≤ m.an.err; exact hl.e0, by show m.an.err < 256 ^ 1; rw [e1]; omega⟩, decide_eq_false (by show ¬ (m.an.err < 0 ∨ 16 < m.an.err); have := hl.e0; omega)⟩, by have := hl.text; show m.an.text.length ≤ 4294967295; omega⟩
theorem msg_len (m : Mg) : (msgC.enc m).length = 77 + (Cod.encs Cod.ent m.ents).length + m.snap.state.length + (cput m.cmd).length + m.an.text.length := by
  rw [msg_enc]
  simp only [List.length_append, be_length, oputBytes_length, List.length_nil]
  omega
def mg0 : Mg := { Mg0 with kind := 1, fro := 1, too := -2, term := 5 }
theorem mg0_wide : mg0.wide := by
  constructor <;> first | exact ⟨by decide, by decide⟩ | (constructor <;> simp [mg0, Mg0, Cm.zero]) | simp [mg0, Mg0]
theorem mg0_light : mg0.light := by constructor <;> simp [mg0, Mg0, Cm.zero, Sn0]
theorem mg0_ok : msgC.ok mg0 := Mg.okC mg0_wide mg0_light (by decide) (by decide) (by decide) (.inr rfl) (by simp [mg0, Mg0])
theorem mg0_len : (msgC.enc mg0).length = 77 := by rw [msg_len]; simp [mg0, Mg0, Cod.encs, Sn0, cput, Cm.zero]
end Go.Proofs.Ytlblgopfdadalaa
