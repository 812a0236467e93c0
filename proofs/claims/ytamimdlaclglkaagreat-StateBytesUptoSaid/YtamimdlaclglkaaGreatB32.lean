/- A part of the proof of 'StateBytes'. -/
import Derived.Test.YtamimdlaclglkaaGreatB30
import Derived.Test.YtamimdlaclglkaaGreatB10
import Derived.Test.YtamimdlaclglkaaGreatB31
namespace Go.Proofs.YtamimdlaclglkaaGreat
set_option linter.unusedVariables false
set_option linter.unusedSimpArgs false
set_option linter.unnecessarySimpa false
set_option maxRecDepth 100000
open Go.RowKit
theorem take_snocS {α : Type} {l : List α} {k : Nat} {d : α} (hd : l[k]? = some d) : l.take (k + 1) = l.take k ++ [d] := by
  rw [List.take_add_one, hd]; rfl
theorem neq_ln (a b : Ln) : ∃ r : Bool, (r = true ↔ ¬ a = b) ∧ ∀ W, (binOp .neq 53 (.agg (lcells a).toArray) (.agg (lcells b).toArray)).run Tryz.prog W = .ok (.bool r) W := by
  obtain ⟨n, u, t, m⟩ := a
  obtain ⟨n', u', t', m'⟩ := b
  refine ⟨!(decide (n = n') && (decide (u = u') && (decide (t = t') && (decide (m = m'))))), by rw [Bool.not_eq_true', ← Bool.not_eq_true]; exact not_congr (by simp), fun W => ?_⟩
  have hS : Tryz.prog.underlying 53 = some (.struct (Tryz.prog.fieldsOf 53)) := by kernel_rfl
  have hp : Tryz.prog.stoodInHeld 53 = false := by kernel_rfl
  have u1 := Tryz.underlying4
  have u2 := Tryz.underlying24
  have u3 := Tryz.underlying9
  rw [run_neq_struct, show (10000 : Nat) = 9999 + 1 from rfl, run_equalIn_agg W 9999 53 _ _ hS hp]
  simp only [Program.fieldsOf, Tryz.underlying53]
  go_simp
  by_cases h0 : n = n' <;> by_cases h1 : u = u' <;> by_cases h2 : t = t' <;> by_cases h3 : m = m' <;> simp [h0, h1, h2, h3]
theorem neq_dn (a b : Dn) : ∃ r : Bool, (r = true ↔ ¬ a = b) ∧ ∀ W, (binOp .neq 68 (.agg (dcells a).toArray) (.agg (dcells b).toArray)).run Tryz.prog W = .ok (.bool r) W := by
  obtain ⟨q, ⟨e, t⟩⟩ := a
  obtain ⟨q', ⟨e', t'⟩⟩ := b
  refine ⟨!(decide (q = q') && (decide (e = e') && (decide (t = t')))), by rw [Bool.not_eq_true', ← Bool.not_eq_true]; exact not_congr (by simp), fun W => ?_⟩
  have hS : Tryz.prog.underlying 68 = some (.struct (Tryz.prog.fieldsOf 68)) := by kernel_rfl
  have hp : Tryz.prog.stoodInHeld 68 = false := by kernel_rfl
  have u1 := Tryz.underlying31
  have u5 := Tryz.underlying33
  have u2 := Tryz.underlying24
  have u3 := Tryz.underlying9
  rw [run_neq_struct, show (10000 : Nat) = 9999 + 1 from rfl, run_equalIn_agg W 9999 68 _ _ hS hp]
  simp only [Program.fieldsOf, Tryz.underlying68]
  go_simp
  by_cases h0 : q = q' <;> by_cases h1 : e = e' <;> by_cases h2 : t = t' <;> simp [h0, h1, h2]
set_option maxHeartbeats 6400000 in
theorem equal_ln (x y : Value) (l m : List Ln) (w : World) (hx : Enc.Sl lnE w noneAt x l) (hy : Enc.Sl lnE w noneAt y m) : Calls Tryz.prog 34 #[x, y] w fun e w' => RetIs (l = m) w w' e := by
  obtain ⟨A, c, rfl, k1, k2⟩ := hx.form
  obtain ⟨B, d, rfl, k3, k4⟩ := hy.form
  unfold maxLen at k2 k4
  by_cases hlen : l.length = m.length
  · have HL := hide hlen
    have fl : ((l.length : Int) == (m.length : Int)) = true := by simp [hlen]
    have fl2 : (l.length == m.length) = true := by simp [hlen]
    clear hlen
    go_enter Tryz.func34, Tryz.ntmps34
    go_wp2_with fail
    clear fl fl2
    go_loopw [13] (fun vi wr => ∃ k : Nat, (k : Int) ≤ l.length ∧ vi = .int .i64 k ∧ Hid (l.take k = m.take k) ∧ Ext w wr) (fun vi _ => (l.length - intOf vi).toNat)
    case atStart => exact ⟨0, by omega, rfl, hide (by simp), Ext.rfl' _⟩
    case round =>
      obtain ⟨k, hk, rfl, hsm, hxr⟩ := hrel
      by_cases hlt : (k : Int) < l.length
      · have HLT := hide hlt
        obtain ⟨ad, e, rfl, he, hb, p0, p1, p2, p3, -⟩ := ln_at (hx.ext hxr) (k := k) (by omega)
        obtain ⟨ad2, e2, rfl, he2, hb2, r0, r1, r2, r3, -⟩ := ln_at (hy.ext hxr) (k := k) (by rw [← HL.out]; omega)
        have hab : (ad.add (k * 4)).block < wr.heap.size := by rw [block_of_add]; exact hb
        have hab2 : (ad2.add (k * 4)).block < wr.heap.size := by rw [block_of_add]; exact hb2
        have hb1 : (0 : Int) ≤ k := by omega
        have hb2' : (k : Int) < l.length := hlt
        have hb3' : (k : Int) < m.length := by rw [← HL.out]; exact hlt
        have hne : Hid (¬ e = e2 → ¬ l = m) := hide (fun h hlm => h (by subst hlm; exact Option.some.inj (he.out.symm.trans he2.out)))
        obtain ⟨b, hbi, heq⟩ := neq_ln e e2
        have HBI := hide hbi
        clear hbi
        rcases Bool.eq_false_or_eq_true b with hb_ | hb_
        · have HE : Hid (¬ e = e2) := hide (fun h => HBI.out.1 hb_ h)
          go_upto_region 6 with fail
          refine Rg.regionT Tryz.checked.mixed 26 9 (by kernel_rfl) [
            (fun x_ _ => x_ = .slice (some ad) l.length c),
            (fun x_ _ => x_ = .int .i64 k),
            (fun x_ _ => x_ = .pointer (some (ad.add (k * 4)))),
            (fun x_ _ => x_ = .agg #[str e.name, str e.url, .int .u64 e.till, .bool e.made]),
            (fun x_ _ => x_ = .slice (some ad2) m.length d),
            (fun x_ _ => x_ = .int .i64 k),
            (fun x_ _ => x_ = .pointer (some (ad2.add (k * 4)))),
            (fun x_ _ => x_ = .agg #[str e2.name, str e2.url, .int .u64 e2.till, .bool e2.made]),
            (fun x_ _ => x_ = .bool true)] (fun W => Ext wr W) Ext rfl rfl rfl
            ?st ((Ext.rfl' wr).drew') ?ob ?en
          case st => exact ⟨fun _ _ _ h _ => h, fun _ _ _ h _ => h, fun _ _ _ h _ => h, fun _ _ _ h _ => h, fun _ _ _ h _ => h, fun _ _ _ h _ => h, fun _ _ _ h _ => h, fun _ _ _ h _ => h, fun _ _ _ h _ => h, trivial⟩
          case ob =>
            refine ⟨Rg.at_run [0] rfl ?_, ?_⟩
            · intro ρ W hR ⟨q0, _⟩
              replace q0 : ρ 0 = .slice (some ad) l.length c := q0
              refine ⟨rfl, ?_⟩
              exact Rg.run_ok (v := .slice (some ad) l.length c) (by simp [execOp, Rg.ev, go_sem, q0]) ⟨rfl, hR, Ext.rfl' _⟩
            refine ⟨Rg.at_run [5] rfl ?_, ?_⟩
            · intro ρ W hR ⟨q5, _⟩
              replace q5 : ρ 5 = .int .i64 k := q5
              refine ⟨rfl, ?_⟩
              exact Rg.run_ok (v := .int .i64 k) (by simp [execOp, Rg.ev, go_sem, q5]) ⟨rfl, hR, Ext.rfl' _⟩
            refine ⟨Rg.at_run [16, 17] rfl ?_, ?_⟩
            · intro ρ W hR ⟨q16, q17, _⟩
              replace q16 : ρ 16 = .slice (some ad) l.length c := q16
              replace q17 : ρ 17 = .int .i64 k := q17
              refine ⟨rfl, ?_⟩
              exact Rg.run_ok (v := .pointer (some (ad.add (k * 4)))) (by simp [execOp, Rg.ev, go_sem, q16, q17, hb1, hb2']) ⟨rfl, hR, Ext.rfl' _⟩
            refine ⟨Rg.at_run [18] rfl ?_, ?_⟩
            · intro ρ W hR ⟨q18, _⟩
              replace q18 : ρ 18 = .pointer (some (ad.add (k * 4))) := q18
              refine ⟨rfl, ?_⟩
              have c0_ : W.cell? (ad.add (k * 4)) = some (str e.name) := (hR.cell (p := ad.add (k * 4)) hab).trans p0
              have c1_ : W.cell? (⟨(ad.add (k * 4)).block, (ad.add (k * 4)).off + 1, none⟩) = some (str e.url) := (hR.cell (p := ⟨(ad.add (k * 4)).block, (ad.add (k * 4)).off + 1, none⟩) hab).trans p1
              have c2_ : W.cell? (⟨(ad.add (k * 4)).block, (ad.add (k * 4)).off + 2, none⟩) = some (.int .u64 e.till) := (hR.cell (p := ⟨(ad.add (k * 4)).block, (ad.add (k * 4)).off + 2, none⟩) hab).trans p2
              have c3_ : W.cell? (⟨(ad.add (k * 4)).block, (ad.add (k * 4)).off + 3, none⟩) = some (.bool e.made) := (hR.cell (p := ⟨(ad.add (k * 4)).block, (ad.add (k * 4)).off + 3, none⟩) hab).trans p3
              exact Rg.run_ok (v := .agg #[str e.name, str e.url, .int .u64 e.till, .bool e.made]) (by simp [execOp, Rg.ev, go_sem, q18, c0_, c1_, c2_, c3_]) ⟨rfl, hR, Ext.rfl' _⟩
            refine ⟨Rg.at_run [1] rfl ?_, ?_⟩
            · intro ρ W hR ⟨q1, _⟩
              replace q1 : ρ 1 = .slice (some ad2) m.length d := q1
              refine ⟨rfl, ?_⟩
              exact Rg.run_ok (v := .slice (some ad2) m.length d) (by simp [execOp, Rg.ev, go_sem, q1]) ⟨rfl, hR, Ext.rfl' _⟩
            refine ⟨Rg.at_run [5] rfl ?_, ?_⟩
            · intro ρ W hR ⟨q5, _⟩
              replace q5 : ρ 5 = .int .i64 k := q5
              refine ⟨rfl, ?_⟩
              exact Rg.run_ok (v := .int .i64 k) (by simp [execOp, Rg.ev, go_sem, q5]) ⟨rfl, hR, Ext.rfl' _⟩
            refine ⟨Rg.at_run [20, 21] rfl ?_, ?_⟩
            · intro ρ W hR ⟨q20, q21, _⟩
              replace q20 : ρ 20 = .slice (some ad2) m.length d := q20
              replace q21 : ρ 21 = .int .i64 k := q21
              refine ⟨rfl, ?_⟩
              exact Rg.run_ok (v := .pointer (some (ad2.add (k * 4)))) (by simp [execOp, Rg.ev, go_sem, q20, q21, hb1, hb3']) ⟨rfl, hR, Ext.rfl' _⟩
            refine ⟨Rg.at_run [22] rfl ?_, ?_⟩
            · intro ρ W hR ⟨q22, _⟩
              replace q22 : ρ 22 = .pointer (some (ad2.add (k * 4))) := q22
              refine ⟨rfl, ?_⟩
              have c0_ : W.cell? (ad2.add (k * 4)) = some (str e2.name) := (hR.cell (p := ad2.add (k * 4)) hab2).trans r0
              have c1_ : W.cell? (⟨(ad2.add (k * 4)).block, (ad2.add (k * 4)).off + 1, none⟩) = some (str e2.url) := (hR.cell (p := ⟨(ad2.add (k * 4)).block, (ad2.add (k * 4)).off + 1, none⟩) hab2).trans r1
              have c2_ : W.cell? (⟨(ad2.add (k * 4)).block, (ad2.add (k * 4)).off + 2, none⟩) = some (.int .u64 e2.till) := (hR.cell (p := ⟨(ad2.add (k * 4)).block, (ad2.add (k * 4)).off + 2, none⟩) hab2).trans r2
              have c3_ : W.cell? (⟨(ad2.add (k * 4)).block, (ad2.add (k * 4)).off + 3, none⟩) = some (.bool e2.made) := (hR.cell (p := ⟨(ad2.add (k * 4)).block, (ad2.add (k * 4)).off + 3, none⟩) hab2).trans r3
              exact Rg.run_ok (v := .agg #[str e2.name, str e2.url, .int .u64 e2.till, .bool e2.made]) (by simp [execOp, Rg.ev, go_sem, q22, c0_, c1_, c2_, c3_]) ⟨rfl, hR, Ext.rfl' _⟩
            refine ⟨Rg.at_run [19, 23] rfl ?_, ?_⟩
            · intro ρ W hR ⟨q19, q23, _⟩
              replace q19 : ρ 19 = .agg #[str e.name, str e.url, .int .u64 e.till, .bool e.made] := q19
              replace q23 : ρ 23 = .agg #[str e2.name, str e2.url, .int .u64 e2.till, .bool e2.made] := q23
              refine ⟨rfl, ?_⟩
              have h9 := heq W
              rw [hb_] at h9
              exact Rg.run_ok (v := .bool true) (by simp only [execOp, Rg.ev, resolve, Sem.run_bind, Sem.run_pure, Result.andThen_ok, q19, q23]; rw [run_eqGuard_agg W .neq 53 _ _ (lcells e).toArray (lcells e2).toArray (by kernel_rfl)]; simp only [Result.andThen_ok]; rw [h9]; rfl) ⟨rfl, hR, Ext.rfl' _⟩
            trivial
          case en =>
            intro tm W hR hsz hk
            rw [Rg.fin_eq (ds := [16, 17, 18, 19, 20, 21, 22, 23, 24]) rfl rfl rfl hsz hk]
            have k16 : tm.getD 16 undef = .slice (some ad) l.length c := hk 16
            have k17 : tm.getD 17 undef = .int .i64 k := hk 17
            have k18 : tm.getD 18 undef = .pointer (some (ad.add (k * 4))) := hk 18
            have k19 : tm.getD 19 undef = .agg #[str e.name, str e.url, .int .u64 e.till, .bool e.made] := hk 19
            have k20 : tm.getD 20 undef = .slice (some ad2) m.length d := hk 20
            have k21 : tm.getD 21 undef = .int .i64 k := hk 21
            have k22 : tm.getD 22 undef = .pointer (some (ad2.add (k * 4))) := hk 22
            have k23 : tm.getD 23 undef = .agg #[str e2.name, str e2.url, .int .u64 e2.till, .bool e2.made] := hk 23
            have k24 : tm.getD 24 undef = .bool true := hk 24
            clear hk hsz
            simp only [Rg.putAll, List.setIfInBounds_toArray, List.set_cons_zero, List.set_cons_succ, k16, k17, k18, k19, k20, k21, k22, k23, k24]
            clear k16
            clear k17
            clear k18
            clear k19
            clear k20
            clear k21
            clear k22
            clear k23
            clear k24
            refine Rg.nil_list ?_
            go_wp2
            go_ret
            exact RetIs.no (hxr.trans' hR) (hne.out HE.out)
        · have HE : Hid (e = e2) := hide (Classical.byContradiction fun h => by have := HBI.out.2 h; rw [hb_] at this; cases this)
          go_upto_region 6 with fail
          refine Rg.regionT Tryz.checked.mixed 26 9 (by kernel_rfl) [
            (fun x_ _ => x_ = .slice (some ad) l.length c),
            (fun x_ _ => x_ = .int .i64 k),
            (fun x_ _ => x_ = .pointer (some (ad.add (k * 4)))),
            (fun x_ _ => x_ = .agg #[str e.name, str e.url, .int .u64 e.till, .bool e.made]),
            (fun x_ _ => x_ = .slice (some ad2) m.length d),
            (fun x_ _ => x_ = .int .i64 k),
            (fun x_ _ => x_ = .pointer (some (ad2.add (k * 4)))),
            (fun x_ _ => x_ = .agg #[str e2.name, str e2.url, .int .u64 e2.till, .bool e2.made]),
            (fun x_ _ => x_ = .bool false)] (fun W => Ext wr W) Ext rfl rfl rfl
            ?st ((Ext.rfl' wr).drew') ?ob ?en
          case st => exact ⟨fun _ _ _ h _ => h, fun _ _ _ h _ => h, fun _ _ _ h _ => h, fun _ _ _ h _ => h, fun _ _ _ h _ => h, fun _ _ _ h _ => h, fun _ _ _ h _ => h, fun _ _ _ h _ => h, fun _ _ _ h _ => h, trivial⟩
          case ob =>
            refine ⟨Rg.at_run [0] rfl ?_, ?_⟩
            · intro ρ W hR ⟨q0, _⟩
              replace q0 : ρ 0 = .slice (some ad) l.length c := q0
              refine ⟨rfl, ?_⟩
              exact Rg.run_ok (v := .slice (some ad) l.length c) (by simp [execOp, Rg.ev, go_sem, q0]) ⟨rfl, hR, Ext.rfl' _⟩
            refine ⟨Rg.at_run [5] rfl ?_, ?_⟩
            · intro ρ W hR ⟨q5, _⟩
              replace q5 : ρ 5 = .int .i64 k := q5
              refine ⟨rfl, ?_⟩
              exact Rg.run_ok (v := .int .i64 k) (by simp [execOp, Rg.ev, go_sem, q5]) ⟨rfl, hR, Ext.rfl' _⟩
            refine ⟨Rg.at_run [16, 17] rfl ?_, ?_⟩
            · intro ρ W hR ⟨q16, q17, _⟩
              replace q16 : ρ 16 = .slice (some ad) l.length c := q16
              replace q17 : ρ 17 = .int .i64 k := q17
              refine ⟨rfl, ?_⟩
              exact Rg.run_ok (v := .pointer (some (ad.add (k * 4)))) (by simp [execOp, Rg.ev, go_sem, q16, q17, hb1, hb2']) ⟨rfl, hR, Ext.rfl' _⟩
            refine ⟨Rg.at_run [18] rfl ?_, ?_⟩
            · intro ρ W hR ⟨q18, _⟩
              replace q18 : ρ 18 = .pointer (some (ad.add (k * 4))) := q18
              refine ⟨rfl, ?_⟩
              have c0_ : W.cell? (ad.add (k * 4)) = some (str e.name) := (hR.cell (p := ad.add (k * 4)) hab).trans p0
              have c1_ : W.cell? (⟨(ad.add (k * 4)).block, (ad.add (k * 4)).off + 1, none⟩) = some (str e.url) := (hR.cell (p := ⟨(ad.add (k * 4)).block, (ad.add (k * 4)).off + 1, none⟩) hab).trans p1
              have c2_ : W.cell? (⟨(ad.add (k * 4)).block, (ad.add (k * 4)).off + 2, none⟩) = some (.int .u64 e.till) := (hR.cell (p := ⟨(ad.add (k * 4)).block, (ad.add (k * 4)).off + 2, none⟩) hab).trans p2
              have c3_ : W.cell? (⟨(ad.add (k * 4)).block, (ad.add (k * 4)).off + 3, none⟩) = some (.bool e.made) := (hR.cell (p := ⟨(ad.add (k * 4)).block, (ad.add (k * 4)).off + 3, none⟩) hab).trans p3
              exact Rg.run_ok (v := .agg #[str e.name, str e.url, .int .u64 e.till, .bool e.made]) (by simp [execOp, Rg.ev, go_sem, q18, c0_, c1_, c2_, c3_]) ⟨rfl, hR, Ext.rfl' _⟩
            refine ⟨Rg.at_run [1] rfl ?_, ?_⟩
            · intro ρ W hR ⟨q1, _⟩
              replace q1 : ρ 1 = .slice (some ad2) m.length d := q1
              refine ⟨rfl, ?_⟩
              exact Rg.run_ok (v := .slice (some ad2) m.length d) (by simp [execOp, Rg.ev, go_sem, q1]) ⟨rfl, hR, Ext.rfl' _⟩
            refine ⟨Rg.at_run [5] rfl ?_, ?_⟩
            · intro ρ W hR ⟨q5, _⟩
              replace q5 : ρ 5 = .int .i64 k := q5
              refine ⟨rfl, ?_⟩
              exact Rg.run_ok (v := .int .i64 k) (by simp [execOp, Rg.ev, go_sem, q5]) ⟨rfl, hR, Ext.rfl' _⟩
            refine ⟨Rg.at_run [20, 21] rfl ?_, ?_⟩
            · intro ρ W hR ⟨q20, q21, _⟩
              replace q20 : ρ 20 = .slice (some ad2) m.length d := q20
              replace q21 : ρ 21 = .int .i64 k := q21
              refine ⟨rfl, ?_⟩
              exact Rg.run_ok (v := .pointer (some (ad2.add (k * 4)))) (by simp [execOp, Rg.ev, go_sem, q20, q21, hb1, hb3']) ⟨rfl, hR, Ext.rfl' _⟩
            refine ⟨Rg.at_run [22] rfl ?_, ?_⟩
            · intro ρ W hR ⟨q22, _⟩
              replace q22 : ρ 22 = .pointer (some (ad2.add (k * 4))) := q22
              refine ⟨rfl, ?_⟩
              have c0_ : W.cell? (ad2.add (k * 4)) = some (str e2.name) := (hR.cell (p := ad2.add (k * 4)) hab2).trans r0
              have c1_ : W.cell? (⟨(ad2.add (k * 4)).block, (ad2.add (k * 4)).off + 1, none⟩) = some (str e2.url) := (hR.cell (p := ⟨(ad2.add (k * 4)).block, (ad2.add (k * 4)).off + 1, none⟩) hab2).trans r1
              have c2_ : W.cell? (⟨(ad2.add (k * 4)).block, (ad2.add (k * 4)).off + 2, none⟩) = some (.int .u64 e2.till) := (hR.cell (p := ⟨(ad2.add (k * 4)).block, (ad2.add (k * 4)).off + 2, none⟩) hab2).trans r2
              have c3_ : W.cell? (⟨(ad2.add (k * 4)).block, (ad2.add (k * 4)).off + 3, none⟩) = some (.bool e2.made) := (hR.cell (p := ⟨(ad2.add (k * 4)).block, (ad2.add (k * 4)).off + 3, none⟩) hab2).trans r3
              exact Rg.run_ok (v := .agg #[str e2.name, str e2.url, .int .u64 e2.till, .bool e2.made]) (by simp [execOp, Rg.ev, go_sem, q22, c0_, c1_, c2_, c3_]) ⟨rfl, hR, Ext.rfl' _⟩
            refine ⟨Rg.at_run [19, 23] rfl ?_, ?_⟩
            · intro ρ W hR ⟨q19, q23, _⟩
              replace q19 : ρ 19 = .agg #[str e.name, str e.url, .int .u64 e.till, .bool e.made] := q19
              replace q23 : ρ 23 = .agg #[str e2.name, str e2.url, .int .u64 e2.till, .bool e2.made] := q23
              refine ⟨rfl, ?_⟩
              have h9 := heq W
              rw [hb_] at h9
              exact Rg.run_ok (v := .bool false) (by simp only [execOp, Rg.ev, resolve, Sem.run_bind, Sem.run_pure, Result.andThen_ok, q19, q23]; rw [run_eqGuard_agg W .neq 53 _ _ (lcells e).toArray (lcells e2).toArray (by kernel_rfl)]; simp only [Result.andThen_ok]; rw [h9]; rfl) ⟨rfl, hR, Ext.rfl' _⟩
            trivial
          case en =>
            intro tm W hR hsz hk
            rw [Rg.fin_eq (ds := [16, 17, 18, 19, 20, 21, 22, 23, 24]) rfl rfl rfl hsz hk]
            have k16 : tm.getD 16 undef = .slice (some ad) l.length c := hk 16
            have k17 : tm.getD 17 undef = .int .i64 k := hk 17
            have k18 : tm.getD 18 undef = .pointer (some (ad.add (k * 4))) := hk 18
            have k19 : tm.getD 19 undef = .agg #[str e.name, str e.url, .int .u64 e.till, .bool e.made] := hk 19
            have k20 : tm.getD 20 undef = .slice (some ad2) m.length d := hk 20
            have k21 : tm.getD 21 undef = .int .i64 k := hk 21
            have k22 : tm.getD 22 undef = .pointer (some (ad2.add (k * 4))) := hk 22
            have k23 : tm.getD 23 undef = .agg #[str e2.name, str e2.url, .int .u64 e2.till, .bool e2.made] := hk 23
            have k24 : tm.getD 24 undef = .bool false := hk 24
            clear hk hsz
            simp only [Rg.putAll, List.setIfInBounds_toArray, List.set_cons_zero, List.set_cons_succ, k16, k17, k18, k19, k20, k21, k22, k23, k24]
            clear k16
            clear k17
            clear k18
            clear k19
            clear k20
            clear k21
            clear k22
            clear k23
            clear k24
            refine Rg.nil_list ?_
            go_wp2
            go_roundw
            case rel => exact ⟨k + 1, by have := HLT.out; omega, by go_num, hide (by rw [take_snocS he.out, take_snocS he2.out, hsm.out, HE.out]), hxr.trans' hR⟩
            case measure => have := HLT.out; simp [intOf]; omega
      · go_wp2
        go_ret
        exact RetIs.yes hxr (by have := hsm.out; rwa [List.take_of_length_le (by omega), List.take_of_length_le (by rw [← HL.out]; omega)] at this)
  · have HL : Hid (¬ l = m) := hide (fun h => hlen (by rw [h]))
    have fl : ((l.length : Int) == (m.length : Int)) = false := by simp; omega
    have fl2 : (l.length == m.length) = false := by simp [hlen]
    clear hlen
    go_enter Tryz.func34, Tryz.ntmps34
    go_wp2
    go_ret
    exact RetIs.no (Ext.rfl' _) HL.out
set_option maxHeartbeats 6400000 in
theorem equal_dn (x y : Value) (l m : List Dn) (w : World) (hx : Enc.Sl dnE w noneAt x l) (hy : Enc.Sl dnE w noneAt y m) : Calls Tryz.prog 37 #[x, y] w fun e w' => RetIs (l = m) w w' e := by
  obtain ⟨A, c, rfl, k1, k2⟩ := hx.form
  obtain ⟨B, d, rfl, k3, k4⟩ := hy.form
  unfold maxLen at k2 k4
  by_cases hlen : l.length = m.length
  · have HL := hide hlen
    have fl : ((l.length : Int) == (m.length : Int)) = true := by simp [hlen]
    have fl2 : (l.length == m.length) = true := by simp [hlen]
    clear hlen
    go_enter Tryz.func37, Tryz.ntmps37
    go_wp2_with fail
    clear fl fl2
    go_loopw [13] (fun vi wr => ∃ k : Nat, (k : Int) ≤ l.length ∧ vi = .int .i64 k ∧ Hid (l.take k = m.take k) ∧ Ext w wr) (fun vi _ => (l.length - intOf vi).toNat)
    case atStart => exact ⟨0, by omega, rfl, hide (by simp), Ext.rfl' _⟩
    case round =>
      obtain ⟨k, hk, rfl, hsm, hxr⟩ := hrel
      by_cases hlt : (k : Int) < l.length
      · have HLT := hide hlt
        obtain ⟨ad, e, rfl, he, hb, p0, p1, p2, -⟩ := dn_at (hx.ext hxr) (k := k) (by omega)
        obtain ⟨ad2, e2, rfl, he2, hb2, r0, r1, r2, -⟩ := dn_at (hy.ext hxr) (k := k) (by rw [← HL.out]; omega)
        have hab : (ad.add (k * 3)).block < wr.heap.size := by rw [block_of_add]; exact hb
        have hab2 : (ad2.add (k * 3)).block < wr.heap.size := by rw [block_of_add]; exact hb2
        have hb1 : (0 : Int) ≤ k := by omega
        have hb2' : (k : Int) < l.length := hlt
        have hb3' : (k : Int) < m.length := by rw [← HL.out]; exact hlt
        have hne : Hid (¬ e = e2 → ¬ l = m) := hide (fun h hlm => h (by subst hlm; exact Option.some.inj (he.out.symm.trans he2.out)))
        obtain ⟨b, hbi, heq⟩ := neq_dn e e2
        have HBI := hide hbi
        clear hbi
        rcases Bool.eq_false_or_eq_true b with hb_ | hb_
        · have HE : Hid (¬ e = e2) := hide (fun h => HBI.out.1 hb_ h)
          go_upto_region 6 with fail
          refine Rg.regionT Tryz.checked.mixed 26 9 (by kernel_rfl) [
            (fun x_ _ => x_ = .slice (some ad) l.length c),
            (fun x_ _ => x_ = .int .i64 k),
            (fun x_ _ => x_ = .pointer (some (ad.add (k * 3)))),
            (fun x_ _ => x_ = .agg #[.int .u64 e.seq, .int .i64 e.an.err, str e.an.text]),
            (fun x_ _ => x_ = .slice (some ad2) m.length d),
            (fun x_ _ => x_ = .int .i64 k),
            (fun x_ _ => x_ = .pointer (some (ad2.add (k * 3)))),
            (fun x_ _ => x_ = .agg #[.int .u64 e2.seq, .int .i64 e2.an.err, str e2.an.text]),
            (fun x_ _ => x_ = .bool true)] (fun W => Ext wr W) Ext rfl rfl rfl
            ?st ((Ext.rfl' wr).drew') ?ob ?en
          case st => exact ⟨fun _ _ _ h _ => h, fun _ _ _ h _ => h, fun _ _ _ h _ => h, fun _ _ _ h _ => h, fun _ _ _ h _ => h, fun _ _ _ h _ => h, fun _ _ _ h _ => h, fun _ _ _ h _ => h, fun _ _ _ h _ => h, trivial⟩
          case ob =>
            refine ⟨Rg.at_run [0] rfl ?_, ?_⟩
            · intro ρ W hR ⟨q0, _⟩
              replace q0 : ρ 0 = .slice (some ad) l.length c := q0
              refine ⟨rfl, ?_⟩
              exact Rg.run_ok (v := .slice (some ad) l.length c) (by simp [execOp, Rg.ev, go_sem, q0]) ⟨rfl, hR, Ext.rfl' _⟩
            refine ⟨Rg.at_run [5] rfl ?_, ?_⟩
            · intro ρ W hR ⟨q5, _⟩
              replace q5 : ρ 5 = .int .i64 k := q5
              refine ⟨rfl, ?_⟩
              exact Rg.run_ok (v := .int .i64 k) (by simp [execOp, Rg.ev, go_sem, q5]) ⟨rfl, hR, Ext.rfl' _⟩
            refine ⟨Rg.at_run [16, 17] rfl ?_, ?_⟩
            · intro ρ W hR ⟨q16, q17, _⟩
              replace q16 : ρ 16 = .slice (some ad) l.length c := q16
              replace q17 : ρ 17 = .int .i64 k := q17
              refine ⟨rfl, ?_⟩
              exact Rg.run_ok (v := .pointer (some (ad.add (k * 3)))) (by simp [execOp, Rg.ev, go_sem, q16, q17, hb1, hb2']) ⟨rfl, hR, Ext.rfl' _⟩
            refine ⟨Rg.at_run [18] rfl ?_, ?_⟩
            · intro ρ W hR ⟨q18, _⟩
              replace q18 : ρ 18 = .pointer (some (ad.add (k * 3))) := q18
              refine ⟨rfl, ?_⟩
              have c0_ : W.cell? (ad.add (k * 3)) = some (.int .u64 e.seq) := (hR.cell (p := ad.add (k * 3)) hab).trans p0
              have c1_ : W.cell? (⟨(ad.add (k * 3)).block, (ad.add (k * 3)).off + 1, none⟩) = some (.int .i64 e.an.err) := (hR.cell (p := ⟨(ad.add (k * 3)).block, (ad.add (k * 3)).off + 1, none⟩) hab).trans p1
              have c2_ : W.cell? (⟨(ad.add (k * 3)).block, (ad.add (k * 3)).off + 2, none⟩) = some (str e.an.text) := (hR.cell (p := ⟨(ad.add (k * 3)).block, (ad.add (k * 3)).off + 2, none⟩) hab).trans p2
              exact Rg.run_ok (v := .agg #[.int .u64 e.seq, .int .i64 e.an.err, str e.an.text]) (by simp [execOp, Rg.ev, go_sem, q18, c0_, c1_, c2_]) ⟨rfl, hR, Ext.rfl' _⟩
            refine ⟨Rg.at_run [1] rfl ?_, ?_⟩
            · intro ρ W hR ⟨q1, _⟩
              replace q1 : ρ 1 = .slice (some ad2) m.length d := q1
              refine ⟨rfl, ?_⟩
              exact Rg.run_ok (v := .slice (some ad2) m.length d) (by simp [execOp, Rg.ev, go_sem, q1]) ⟨rfl, hR, Ext.rfl' _⟩
            refine ⟨Rg.at_run [5] rfl ?_, ?_⟩
            · intro ρ W hR ⟨q5, _⟩
              replace q5 : ρ 5 = .int .i64 k := q5
              refine ⟨rfl, ?_⟩
              exact Rg.run_ok (v := .int .i64 k) (by simp [execOp, Rg.ev, go_sem, q5]) ⟨rfl, hR, Ext.rfl' _⟩
            refine ⟨Rg.at_run [20, 21] rfl ?_, ?_⟩
            · intro ρ W hR ⟨q20, q21, _⟩
              replace q20 : ρ 20 = .slice (some ad2) m.length d := q20
              replace q21 : ρ 21 = .int .i64 k := q21
              refine ⟨rfl, ?_⟩
              exact Rg.run_ok (v := .pointer (some (ad2.add (k * 3)))) (by simp [execOp, Rg.ev, go_sem, q20, q21, hb1, hb3']) ⟨rfl, hR, Ext.rfl' _⟩
            refine ⟨Rg.at_run [22] rfl ?_, ?_⟩
            · intro ρ W hR ⟨q22, _⟩
              replace q22 : ρ 22 = .pointer (some (ad2.add (k * 3))) := q22
              refine ⟨rfl, ?_⟩
              have c0_ : W.cell? (ad2.add (k * 3)) = some (.int .u64 e2.seq) := (hR.cell (p := ad2.add (k * 3)) hab2).trans r0
              have c1_ : W.cell? (⟨(ad2.add (k * 3)).block, (ad2.add (k * 3)).off + 1, none⟩) = some (.int .i64 e2.an.err) := (hR.cell (p := ⟨(ad2.add (k * 3)).block, (ad2.add (k * 3)).off + 1, none⟩) hab2).trans r1
              have c2_ : W.cell? (⟨(ad2.add (k * 3)).block, (ad2.add (k * 3)).off + 2, none⟩) = some (str e2.an.text) := (hR.cell (p := ⟨(ad2.add (k * 3)).block, (ad2.add (k * 3)).off + 2, none⟩) hab2).trans r2
              exact Rg.run_ok (v := .agg #[.int .u64 e2.seq, .int .i64 e2.an.err, str e2.an.text]) (by simp [execOp, Rg.ev, go_sem, q22, c0_, c1_, c2_]) ⟨rfl, hR, Ext.rfl' _⟩
            refine ⟨Rg.at_run [19, 23] rfl ?_, ?_⟩
            · intro ρ W hR ⟨q19, q23, _⟩
              replace q19 : ρ 19 = .agg #[.int .u64 e.seq, .int .i64 e.an.err, str e.an.text] := q19
              replace q23 : ρ 23 = .agg #[.int .u64 e2.seq, .int .i64 e2.an.err, str e2.an.text] := q23
              refine ⟨rfl, ?_⟩
              have h9 := heq W
              rw [hb_] at h9
              exact Rg.run_ok (v := .bool true) (by simp only [execOp, Rg.ev, resolve, Sem.run_bind, Sem.run_pure, Result.andThen_ok, q19, q23]; rw [run_eqGuard_agg W .neq 68 _ _ (dcells e).toArray (dcells e2).toArray (by kernel_rfl)]; simp only [Result.andThen_ok]; rw [h9]; rfl) ⟨rfl, hR, Ext.rfl' _⟩
            trivial
          case en =>
            intro tm W hR hsz hk
            rw [Rg.fin_eq (ds := [16, 17, 18, 19, 20, 21, 22, 23, 24]) rfl rfl rfl hsz hk]
            have k16 : tm.getD 16 undef = .slice (some ad) l.length c := hk 16
            have k17 : tm.getD 17 undef = .int .i64 k := hk 17
            have k18 : tm.getD 18 undef = .pointer (some (ad.add (k * 3))) := hk 18
            have k19 : tm.getD 19 undef = .agg #[.int .u64 e.seq, .int .i64 e.an.err, str e.an.text] := hk 19
            have k20 : tm.getD 20 undef = .slice (some ad2) m.length d := hk 20
            have k21 : tm.getD 21 undef = .int .i64 k := hk 21
            have k22 : tm.getD 22 undef = .pointer (some (ad2.add (k * 3))) := hk 22
            have k23 : tm.getD 23 undef = .agg #[.int .u64 e2.seq, .int .i64 e2.an.err, str e2.an.text] := hk 23
            have k24 : tm.getD 24 undef = .bool true := hk 24
            clear hk hsz
            simp only [Rg.putAll, List.setIfInBounds_toArray, List.set_cons_zero, List.set_cons_succ, k16, k17, k18, k19, k20, k21, k22, k23, k24]
            clear k16
            clear k17
            clear k18
            clear k19
            clear k20
            clear k21
            clear k22
            clear k23
            clear k24
            refine Rg.nil_list ?_
            go_wp2
            go_ret
            exact RetIs.no (hxr.trans' hR) (hne.out HE.out)
        · have HE : Hid (e = e2) := hide (Classical.byContradiction fun h => by have := HBI.out.2 h; rw [hb_] at this; cases this)
          go_upto_region 6 with fail
          refine Rg.regionT Tryz.checked.mixed 26 9 (by kernel_rfl) [
            (fun x_ _ => x_ = .slice (some ad) l.length c),
            (fun x_ _ => x_ = .int .i64 k),
            (fun x_ _ => x_ = .pointer (some (ad.add (k * 3)))),
            (fun x_ _ => x_ = .agg #[.int .u64 e.seq, .int .i64 e.an.err, str e.an.text]),
            (fun x_ _ => x_ = .slice (some ad2) m.length d),
            (fun x_ _ => x_ = .int .i64 k),
            (fun x_ _ => x_ = .pointer (some (ad2.add (k * 3)))),
            (fun x_ _ => x_ = .agg #[.int .u64 e2.seq, .int .i64 e2.an.err, str e2.an.text]),
            (fun x_ _ => x_ = .bool false)] (fun W => Ext wr W) Ext rfl rfl rfl
            ?st ((Ext.rfl' wr).drew') ?ob ?en
          case st => exact ⟨fun _ _ _ h _ => h, fun _ _ _ h _ => h, fun _ _ _ h _ => h, fun _ _ _ h _ => h, fun _ _ _ h _ => h, fun _ _ _ h _ => h, fun _ _ _ h _ => h, fun _ _ _ h _ => h, fun _ _ _ h _ => h, trivial⟩
          case ob =>
            refine ⟨Rg.at_run [0] rfl ?_, ?_⟩
            · intro ρ W hR ⟨q0, _⟩
              replace q0 : ρ 0 = .slice (some ad) l.length c := q0
              refine ⟨rfl, ?_⟩
              exact Rg.run_ok (v := .slice (some ad) l.length c) (by simp [execOp, Rg.ev, go_sem, q0]) ⟨rfl, hR, Ext.rfl' _⟩
            refine ⟨Rg.at_run [5] rfl ?_, ?_⟩
            · intro ρ W hR ⟨q5, _⟩
              replace q5 : ρ 5 = .int .i64 k := q5
              refine ⟨rfl, ?_⟩
              exact Rg.run_ok (v := .int .i64 k) (by simp [execOp, Rg.ev, go_sem, q5]) ⟨rfl, hR, Ext.rfl' _⟩
            refine ⟨Rg.at_run [16, 17] rfl ?_, ?_⟩
            · intro ρ W hR ⟨q16, q17, _⟩
              replace q16 : ρ 16 = .slice (some ad) l.length c := q16
              replace q17 : ρ 17 = .int .i64 k := q17
              refine ⟨rfl, ?_⟩
              exact Rg.run_ok (v := .pointer (some (ad.add (k * 3)))) (by simp [execOp, Rg.ev, go_sem, q16, q17, hb1, hb2']) ⟨rfl, hR, Ext.rfl' _⟩
            refine ⟨Rg.at_run [18] rfl ?_, ?_⟩
            · intro ρ W hR ⟨q18, _⟩
              replace q18 : ρ 18 = .pointer (some (ad.add (k * 3))) := q18
              refine ⟨rfl, ?_⟩
              have c0_ : W.cell? (ad.add (k * 3)) = some (.int .u64 e.seq) := (hR.cell (p := ad.add (k * 3)) hab).trans p0
              have c1_ : W.cell? (⟨(ad.add (k * 3)).block, (ad.add (k * 3)).off + 1, none⟩) = some (.int .i64 e.an.err) := (hR.cell (p := ⟨(ad.add (k * 3)).block, (ad.add (k * 3)).off + 1, none⟩) hab).trans p1
              have c2_ : W.cell? (⟨(ad.add (k * 3)).block, (ad.add (k * 3)).off + 2, none⟩) = some (str e.an.text) := (hR.cell (p := ⟨(ad.add (k * 3)).block, (ad.add (k * 3)).off + 2, none⟩) hab).trans p2
              exact Rg.run_ok (v := .agg #[.int .u64 e.seq, .int .i64 e.an.err, str e.an.text]) (by simp [execOp, Rg.ev, go_sem, q18, c0_, c1_, c2_]) ⟨rfl, hR, Ext.rfl' _⟩
            refine ⟨Rg.at_run [1] rfl ?_, ?_⟩
            · intro ρ W hR ⟨q1, _⟩
              replace q1 : ρ 1 = .slice (some ad2) m.length d := q1
              refine ⟨rfl, ?_⟩
              exact Rg.run_ok (v := .slice (some ad2) m.length d) (by simp [execOp, Rg.ev, go_sem, q1]) ⟨rfl, hR, Ext.rfl' _⟩
            refine ⟨Rg.at_run [5] rfl ?_, ?_⟩
            · intro ρ W hR ⟨q5, _⟩
              replace q5 : ρ 5 = .int .i64 k := q5
              refine ⟨rfl, ?_⟩
              exact Rg.run_ok (v := .int .i64 k) (by simp [execOp, Rg.ev, go_sem, q5]) ⟨rfl, hR, Ext.rfl' _⟩
            refine ⟨Rg.at_run [20, 21] rfl ?_, ?_⟩
            · intro ρ W hR ⟨q20, q21, _⟩
              replace q20 : ρ 20 = .slice (some ad2) m.length d := q20
              replace q21 : ρ 21 = .int .i64 k := q21
              refine ⟨rfl, ?_⟩
              exact Rg.run_ok (v := .pointer (some (ad2.add (k * 3)))) (by simp [execOp, Rg.ev, go_sem, q20, q21, hb1, hb3']) ⟨rfl, hR, Ext.rfl' _⟩
            refine ⟨Rg.at_run [22] rfl ?_, ?_⟩
            · intro ρ W hR ⟨q22, _⟩
              replace q22 : ρ 22 = .pointer (some (ad2.add (k * 3))) := q22
              refine ⟨rfl, ?_⟩
              have c0_ : W.cell? (ad2.add (k * 3)) = some (.int .u64 e2.seq) := (hR.cell (p := ad2.add (k * 3)) hab2).trans r0
              have c1_ : W.cell? (⟨(ad2.add (k * 3)).block, (ad2.add (k * 3)).off + 1, none⟩) = some (.int .i64 e2.an.err) := (hR.cell (p := ⟨(ad2.add (k * 3)).block, (ad2.add (k * 3)).off + 1, none⟩) hab2).trans r1
              have c2_ : W.cell? (⟨(ad2.add (k * 3)).block, (ad2.add (k * 3)).off + 2, none⟩) = some (str e2.an.text) := (hR.cell (p := ⟨(ad2.add (k * 3)).block, (ad2.add (k * 3)).off + 2, none⟩) hab2).trans r2
              exact Rg.run_ok (v := .agg #[.int .u64 e2.seq, .int .i64 e2.an.err, str e2.an.text]) (by simp [execOp, Rg.ev, go_sem, q22, c0_, c1_, c2_]) ⟨rfl, hR, Ext.rfl' _⟩
            refine ⟨Rg.at_run [19, 23] rfl ?_, ?_⟩
            · intro ρ W hR ⟨q19, q23, _⟩
              replace q19 : ρ 19 = .agg #[.int .u64 e.seq, .int .i64 e.an.err, str e.an.text] := q19
              replace q23 : ρ 23 = .agg #[.int .u64 e2.seq, .int .i64 e2.an.err, str e2.an.text] := q23
              refine ⟨rfl, ?_⟩
              have h9 := heq W
              rw [hb_] at h9
              exact Rg.run_ok (v := .bool false) (by simp only [execOp, Rg.ev, resolve, Sem.run_bind, Sem.run_pure, Result.andThen_ok, q19, q23]; rw [run_eqGuard_agg W .neq 68 _ _ (dcells e).toArray (dcells e2).toArray (by kernel_rfl)]; simp only [Result.andThen_ok]; rw [h9]; rfl) ⟨rfl, hR, Ext.rfl' _⟩
            trivial
          case en =>
            intro tm W hR hsz hk
            rw [Rg.fin_eq (ds := [16, 17, 18, 19, 20, 21, 22, 23, 24]) rfl rfl rfl hsz hk]
            have k16 : tm.getD 16 undef = .slice (some ad) l.length c := hk 16
            have k17 : tm.getD 17 undef = .int .i64 k := hk 17
            have k18 : tm.getD 18 undef = .pointer (some (ad.add (k * 3))) := hk 18
            have k19 : tm.getD 19 undef = .agg #[.int .u64 e.seq, .int .i64 e.an.err, str e.an.text] := hk 19
            have k20 : tm.getD 20 undef = .slice (some ad2) m.length d := hk 20
            have k21 : tm.getD 21 undef = .int .i64 k := hk 21
            have k22 : tm.getD 22 undef = .pointer (some (ad2.add (k * 3))) := hk 22
            have k23 : tm.getD 23 undef = .agg #[.int .u64 e2.seq, .int .i64 e2.an.err, str e2.an.text] := hk 23
            have k24 : tm.getD 24 undef = .bool false := hk 24
            clear hk hsz
            simp only [Rg.putAll, List.setIfInBounds_toArray, List.set_cons_zero, List.set_cons_succ, k16, k17, k18, k19, k20, k21, k22, k23, k24]
            clear k16
            clear k17
            clear k18
            clear k19
            clear k20
            clear k21
            clear k22
            clear k23
            clear k24
            refine Rg.nil_list ?_
            go_wp2
            go_roundw
            case rel => exact ⟨k + 1, by have := HLT.out; omega, by go_num, hide (by rw [take_snocS he.out, take_snocS he2.out, hsm.out, HE.out]), hxr.trans' hR⟩
            case measure => have := HLT.out; simp [intOf]; omega
      · go_wp2
        go_ret
        exact RetIs.yes hxr (by have := hsm.out; rwa [List.take_of_length_le (by omega), List.take_of_length_le (by rw [← HL.out]; omega)] at this)
  · have HL : Hid (¬ l = m) := hide (fun h => hlen (by rw [h]))
    have fl : ((l.length : Int) == (m.length : Int)) = false := by simp; omega
    have fl2 : (l.length == m.length) = false := by simp [hlen]
    clear hlen
    go_enter Tryz.func37, Tryz.ntmps37
    go_wp2
    go_ret
    exact RetIs.no (Ext.rfl' _) HL.out
theorem se_ext {x y : Se} (h1 : x.client = y.client) (h2 : x.high = y.high) (h3 : x.done = y.done) : x = y := by cases x; cases y; simp_all
theorem st_ext {x y : St} (h1 : x.now = y.now) (h2 : x.count = y.count) (h3 : x.links = y.links) (h4 : x.sess = y.sess) : x = y := by cases x; cases y; simp_all
set_option maxHeartbeats 3200000 in
theorem sameSe_b (x y : Se) (v1 v2 : Value) (w : World) (h1 : Enc.Sl dnE w noneAt v1 x.done) (h2 : Enc.Sl dnE w noneAt v2 y.done) :
    Calls Tryz.prog 36 #[.agg (secells x v1).toArray, .agg (secells y v2).toArray] w fun e w' => RetIs (x = y) w w' e := by
  obtain ⟨A1, c1, rfl, -, -⟩ := h1.form
  obtain ⟨A2, c2, rfl, -, -⟩ := h2.form
  obtain ⟨hB, hC, hxw⟩ := two_alC w 56 56 (secells x (.slice A1 x.done.length c1)).toArray (secells y (.slice A2 y.done.length c2)).toArray
  obtain ⟨g, hg⟩ : ∃ g, w.heap.size = g := ⟨_, rfl⟩
  rw [hg] at hB hC
  have HD := hide (fun (W : World) hx => equal_dn (.slice A1 x.done.length c1) (.slice A2 y.done.length c2) x.done y.done W (h1.ext hx) (h2.ext hx))
  rcases Bool.eq_false_or_eq_true (x.client == y.client) with f1 | f1
  · rcases Bool.eq_false_or_eq_true (x.high == y.high) with f2 | f2
    · have HH : Hid (x.client = y.client ∧ x.high = y.high) := hide ⟨by simpa using f1, by simpa using f2⟩
      go_enter Tryz.func36, Tryz.ntmps36
      go_upto_region 1 with fail
      generalize ((w.alloc (.cells (secells x (.slice A1 x.done.length c1)).toArray 56)).alloc (.cells (secells y (.slice A2 y.done.length c2)).toArray 56)) = w1 at *
      try rw [hg]
      have b0 := (hB.cell 0).trans rfl
      have b1 := (hB.cell 1).trans rfl
      have b2 := (hB.cell 2).trans rfl
      have c0 := (hC.cell 0).trans rfl
      have c1_ := (hC.cell 1).trans rfl
      have c2_ := (hC.cell 2).trans rfl
      go_wp2_with fail
      refine (HD.out w1 hxw).mono ?_
      rintro e w2 ⟨b, rfl, hx2, hb⟩
      cases b with
      | false =>
        have HE : Hid (¬ x = y) := hide (fun h => by have := hb.out.2 (by rw [h]); cases this)
        go_wp2
        go_ret
        exact RetIs.no (hxw.trans' hx2) HE.out
      | true =>
        have HE : Hid (x = y) := hide (se_ext HH.out.1 HH.out.2 (hb.out.1 rfl))
        go_wp2
        go_ret
        exact RetIs.yes (hxw.trans' hx2) HE.out
    · have HE : Hid (¬ x = y) := hide (fun h => by simp [h] at f2)
      go_enter Tryz.func36, Tryz.ntmps36
      go_upto_region 1 with fail
      generalize ((w.alloc (.cells (secells x (.slice A1 x.done.length c1)).toArray 56)).alloc (.cells (secells y (.slice A2 y.done.length c2)).toArray 56)) = w1 at *
      try rw [hg]
      have b0 := (hB.cell 0).trans rfl
      have b1 := (hB.cell 1).trans rfl
      have c0 := (hC.cell 0).trans rfl
      have c1_ := (hC.cell 1).trans rfl
      go_wp2
      go_ret
      exact RetIs.no hxw HE.out
  · have HE : Hid (¬ x = y) := hide (fun h => by simp [h] at f1)
    go_enter Tryz.func36, Tryz.ntmps36
    go_upto_region 1 with fail
    generalize ((w.alloc (.cells (secells x (.slice A1 x.done.length c1)).toArray 56)).alloc (.cells (secells y (.slice A2 y.done.length c2)).toArray 56)) = w1 at *
    try rw [hg]
    have b0 := (hB.cell 0).trans rfl
    have c0 := (hC.cell 0).trans rfl
    go_wp2
    go_ret
    exact RetIs.no hxw HE.out
set_option maxHeartbeats 6400000 in
theorem equalF_se (x y : Value) (l m : List Se) (w : World) (hx : Enc.Sl seE w noneAt x l) (hy : Enc.Sl seE w noneAt y m) :
    Calls Tryz.prog 35 #[x, y, .func (.func 36) #[] #[]] w fun e w' => RetIs (l = m) w w' e := by
  obtain ⟨A, c, rfl, k1, k2⟩ := hx.form
  obtain ⟨B, d, rfl, k3, k4⟩ := hy.form
  unfold maxLen at k2 k4
  by_cases hl : (l.length : Int) = m.length
  · have HL := hide (show l.length = m.length by omega)
    go_enter Tryz.func35, Tryz.ntmps35
    go_wp2_with fail
    go_loopw [17] (fun vi wr => ∃ k : Nat, (k : Int) ≤ l.length ∧ vi = .int .i64 k ∧ Hid (l.take k = m.take k) ∧ Ext w wr) (fun vi _ => (l.length - intOf vi).toNat)
    case atStart => exact ⟨0, by omega, rfl, hide (by simp), Ext.rfl' _⟩
    case round =>
      obtain ⟨k, hk, rfl, hsm, hxr⟩ := hrel
      by_cases hlt : (k : Int) < l.length
      · have HLT := hide hlt
        obtain ⟨ad, e, v1, rfl, he, hb, p0, p1, p2, -, -, hd1⟩ := se_at (hx.ext hxr) (k := k) (by omega)
        obtain ⟨ad2, e2, v2, rfl, he2, hb2, r0, r1, r2, -, -, hd2⟩ := se_at (hy.ext hxr) (k := k) (by rw [← HL.out]; omega)
        have hab : (ad.add (k * 3)).block < wr.heap.size := by rw [block_of_add]; exact hb
        have hab2 : (ad2.add (k * 3)).block < wr.heap.size := by rw [block_of_add]; exact hb2
        have hb1 : (0 : Int) ≤ k := by omega
        have hb2' : (k : Int) < l.length := hlt
        have hb3' : (k : Int) < m.length := by rw [← HL.out]; exact hlt
        have hne : Hid (¬ e = e2 → ¬ l = m) := hide (fun h hlm => h (by subst hlm; exact Option.some.inj (he.out.symm.trans he2.out)))
        obtain ⟨A1, c1, rfl, -, -⟩ := hd1.form
        obtain ⟨A2, c2, rfl, -, -⟩ := hd2.form
        have HS := hide (fun W (hxx : Ext wr W) => sameSe_b e e2 (.slice A1 e.done.length c1) (.slice A2 e2.done.length c2) W (hd1.ext hxx) (hd2.ext hxx))
        have hx2 : Ext wr ((wr.alloc (.cells (secells e (.slice A1 e.done.length c1)).toArray 56)).alloc (.cells (secells e2 (.slice A2 e2.done.length c2)).toArray 56)) := ((Ext.rfl' wr).alloc' _).alloc' _
        go_wp2_with fail
        refine (HS.out _ hx2).mono ?_
        rintro e_ w2 ⟨b, rfl, hx3, hbb⟩
        cases b with
        | false =>
          have HE : Hid (¬ e = e2) := hide (fun h => by have := hbb.out.2 h; cases this)
          go_wp2
          go_ret
          exact RetIs.no ((hxr.trans' hx2).trans' hx3) (hne.out HE.out)
        | true =>
          have HE : Hid (e = e2) := hide (hbb.out.1 rfl)
          go_wp2
          go_roundw
          case rel => exact ⟨k + 1, by have := HLT.out; omega, by go_num, hide (by rw [take_snocS he.out, take_snocS he2.out, hsm.out, HE.out]), (hxr.trans' hx2).trans' hx3⟩
          case measure => have := HLT.out; simp [intOf]; omega
      · go_wp2
        go_ret
        exact RetIs.yes hxr (by have := hsm.out; rwa [List.take_of_length_le (by omega), List.take_of_length_le (by rw [← HL.out]; omega)] at this)
  · have HL : Hid (¬ l = m) := hide (fun h => hl (by rw [h]))
    have hl2 : ¬ (m.length : Int) = l.length := fun h => hl h.symm
    go_enter Tryz.func35, Tryz.ntmps35
    go_wp2
    go_ret
    exact RetIs.no (Ext.rfl' _) HL.out
set_option maxHeartbeats 6400000 in
theorem stsame_b (s t : St) (cs1 cs2 : List Value) (w : World) (hs : stE.rep w noneAt cs1 s) (ht : stE.rep w noneAt cs2 t) :
    Calls Tryz.prog 14 #[.agg cs1.toArray, .agg cs2.toArray] w fun e w' => RetIs (s = t) w w' e := by
  obtain ⟨vl, vs, rfl, -, -, s3, s4⟩ := st_rep.1 hs
  obtain ⟨vl2, vs2, rfl, -, -, t3, t4⟩ := st_rep.1 ht
  obtain ⟨Al, cl, rfl, -, -⟩ := s3.form
  obtain ⟨As, ca, rfl, -, -⟩ := s4.form
  obtain ⟨Bl, dl, rfl, -, -⟩ := t3.form
  obtain ⟨Bs_, da, rfl, -, -⟩ := t4.form
  obtain ⟨hB, hC, hxw⟩ := two_alC w 28 28 (stcells s (.slice Al s.links.length cl) (.slice As s.sess.length ca)).toArray (stcells t (.slice Bl t.links.length dl) (.slice Bs_ t.sess.length da)).toArray
  obtain ⟨g, hg⟩ : ∃ g, w.heap.size = g := ⟨_, rfl⟩
  rw [hg] at hB hC
  have HLN := hide (fun (W : World) hx => equal_ln (.slice Al s.links.length cl) (.slice Bl t.links.length dl) s.links t.links W (s3.ext hx) (t3.ext hx))
  have HSE := hide (fun (W : World) hx => equalF_se (.slice As s.sess.length ca) (.slice Bs_ t.sess.length da) s.sess t.sess W (s4.ext hx) (t4.ext hx))
  clear hs ht s3 s4 t3 t4
  rcases Bool.eq_false_or_eq_true (s.now == t.now) with f1 | f1
  · rcases Bool.eq_false_or_eq_true (s.count == t.count) with f2 | f2
    · have HH : Hid (s.now = t.now ∧ s.count = t.count) := hide ⟨by simpa using f1, by simpa using f2⟩
      go_enter Tryz.func14, Tryz.ntmps14
      go_upto_region 1 with fail
      generalize ((w.alloc (.cells (stcells s (.slice Al s.links.length cl) (.slice As s.sess.length ca)).toArray 28)).alloc (.cells (stcells t (.slice Bl t.links.length dl) (.slice Bs_ t.sess.length da)).toArray 28)) = w1 at *
      try rw [hg]
      have b0 := (hB.cell 0).trans rfl
      have b1 := (hB.cell 1).trans rfl
      have b2 := (hB.cell 2).trans rfl
      have c0 := (hC.cell 0).trans rfl
      have c1_ := (hC.cell 1).trans rfl
      have c2_ := (hC.cell 2).trans rfl
      go_wp2_with fail
      refine (HLN.out w1 hxw).mono ?_
      rintro e w2 ⟨b, rfl, hx2, hb⟩
      cases b with
      | false =>
        have HE : Hid (¬ s = t) := hide (fun h => by have := hb.out.2 (by rw [h]); cases this)
        go_wp2
        go_ret
        exact RetIs.no (hxw.trans' hx2) HE.out
      | true =>
        have HL : Hid (s.links = t.links) := hide (hb.out.1 rfl)
        have b3 := ((hB.ext hx2).cell 3).trans rfl
        have c3 := ((hC.ext hx2).cell 3).trans rfl
        go_wp2_with fail
        refine (HSE.out w2 (hxw.trans' hx2)).mono ?_
        rintro e w3 ⟨b, rfl, hx3, hb3⟩
        cases b with
        | false =>
          have HE : Hid (¬ s = t) := hide (fun h => by have := hb3.out.2 (by rw [h]); cases this)
          go_wp2
          go_ret
          exact RetIs.no ((hxw.trans' hx2).trans' hx3) HE.out
        | true =>
          have HE : Hid (s = t) := hide (st_ext HH.out.1 HH.out.2 HL.out (hb3.out.1 rfl))
          go_wp2
          go_ret
          exact RetIs.yes ((hxw.trans' hx2).trans' hx3) HE.out
    · have HE : Hid (¬ s = t) := hide (fun h => by simp [h] at f2)
      go_enter Tryz.func14, Tryz.ntmps14
      go_upto_region 1 with fail
      generalize ((w.alloc (.cells (stcells s (.slice Al s.links.length cl) (.slice As s.sess.length ca)).toArray 28)).alloc (.cells (stcells t (.slice Bl t.links.length dl) (.slice Bs_ t.sess.length da)).toArray 28)) = w1 at *
      try rw [hg]
      have b0 := (hB.cell 0).trans rfl
      have b1 := (hB.cell 1).trans rfl
      have c0 := (hC.cell 0).trans rfl
      have c1_ := (hC.cell 1).trans rfl
      go_wp2
      go_ret
      exact RetIs.no hxw HE.out
  · have HE : Hid (¬ s = t) := hide (fun h => by simp [h] at f1)
    go_enter Tryz.func14, Tryz.ntmps14
    go_upto_region 1 with fail
    generalize ((w.alloc (.cells (stcells s (.slice Al s.links.length cl) (.slice As s.sess.length ca)).toArray 28)).alloc (.cells (stcells t (.slice Bl t.links.length dl) (.slice Bs_ t.sess.length da)).toArray 28)) = w1 at *
    try rw [hg]
    have b0 := (hB.cell 0).trans rfl
    have c0 := (hC.cell 0).trans rfl
    go_wp2
    go_ret
    exact RetIs.no hxw HE.out
end Go.Proofs.YtamimdlaclglkaaGreat
