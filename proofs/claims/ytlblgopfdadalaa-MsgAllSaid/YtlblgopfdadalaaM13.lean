/- A part of the proof of 'MsgAll'. -/
import Derived.Test.YtlblgopfdadalaaM12
namespace Go.Proofs.Ytlblgopfdadalaa
set_option linter.unusedVariables false
set_option linter.unusedSimpArgs false
set_option linter.unnecessarySimpa false
set_option maxRecDepth 100000
open Go.RowKit
theorem msg_enc (m : Mg) : msgC.enc m = be 1 m.kind.toNat ++ (be 2 (m.fro % 65536).toNat ++ (be 2 (m.too % 65536).toNat ++ (be 8 m.term.toNat ++ (be 8 m.index.toNat ++ (be 8 m.logTerm.toNat ++ (be 8 m.commit.toNat ++ (be 8 m.round.toNat ++
    (be 1 (if m.ok = true then (1 : Int) else 0).toNat ++ ((be 2 m.ents.length ++ Cod.encs Cod.ent m.ents) ++ ((be 8 m.snap.index.toNat ++ (be 8 m.snap.term.toNat ++ oputBytes [] m.snap.state)) ++ (oputBytes [] (cput m.cmd) ++ (be 1 m.an.err.toNat ++ oputBytes [] m.an.text)))))))))))) := rfl
theorem oput_mod (l : Bytes) (v : Int) (h : 0 ≤ v) : oput l v 2 = l ++ be 2 (v % 65536).toNat := by
  have e1 : oput l v 2 = l ++ be 2 v.toNat := by simp [oput]
  rw [e1]
  congr 1
  have e2 : (v % 65536).toNat = v.toNat % 65536 := by omega
  rw [e2]
  simp only [be, UInt8.ofNat_eq_iff_mod_eq_toNat, List.cons.injEq, and_true]
  constructor
  · rw [UInt8.toNat_ofNat']
    show v.toNat / 256 % 256 = v.toNat % 65536 / 256 % 256
    omega
  · rw [UInt8.toNat_ofNat']
    show v.toNat / 1 % 256 = v.toNat % 65536 / 1 % 256
    omega
theorem oPut1 (x : Value) (l : Bytes) (v : Int) (w : World) (hv : U64 v) (hl : l.length ≤ 100000) (hr : Bs w x l) : Calls Try.prog 38 #[x, .int .u64 v, .int .i64 1] w fun e w' => RetNw w w' e (l ++ be 1 v.toNat) :=
  (put_b x l v 1 w hv (by decide) (by omega) hr).mono fun _ _ h => h.eq (by simp [oput])
theorem oPut2 (x : Value) (l : Bytes) (v : Int) (w : World) (hv : U64 v) (hl : l.length ≤ 100000) (hr : Bs w x l) : Calls Try.prog 38 #[x, .int .u64 v, .int .i64 2] w fun e w' => RetNw w w' e (l ++ be 2 (v % 65536).toNat) :=
  (put_b x l v 2 w hv (by decide) (by omega) hr).mono fun _ _ h => h.eq (oput_mod l v hv.1)
theorem oPut8 (x : Value) (l : Bytes) (v : Int) (w : World) (hv : U64 v) (hl : l.length ≤ 100000) (hr : Bs w x l) : Calls Try.prog 38 #[x, .int .u64 v, .int .i64 8] w fun e w' => RetNw w w' e (l ++ be 8 v.toNat) :=
  (put_b x l v 8 w hv (by decide) (by omega) hr).mono fun _ _ h => h.eq (by simp [oput])
theorem oPutB (x y : Value) (b s : Bytes) (w : World) (hl : b.length + s.length ≤ 100000) (hx : Bs w x b) (hy : Bs w y s) : Calls Try.prog 40 #[x, y] w fun e w' => RetNw w w' e (b ++ oputBytes [] s) :=
  (putBytes_b x y b s w (by omega) hx hy).mono fun _ _ h => h.eq (by simp [oputBytes])
theorem flag_b (b : Bool) (w : World) : Calls Try.prog 39 #[.bool b] w fun e w' => e = .returned (.int .u64 (if b = true then 1 else 0)) ∧ w = w' := by
  cases b with
  | false =>
    go_enter Try.func39, Try.ntmps39
    go_wp2
    go_ret
    exact ⟨rfl, rfl⟩
  | true =>
    go_enter Try.func39, Try.ntmps39
    go_wp2
    go_ret
    exact ⟨rfl, rfl⟩
/-- not too great, with numbers that fit -/
structure Mg.light (m : Mg) : Prop where
  k0 : 0 ≤ m.kind
  k1 : m.kind ≤ 255
  f0 : -32768 ≤ m.fro
  f1 : m.fro ≤ 32767
  o0 : -32768 ≤ m.too
  o1 : m.too ≤ 32767
  ents : m.ents.length ≤ 60
  datas : ∀ e ∈ m.ents, e.data.length ≤ 500
  state : m.snap.state.length ≤ 500
  ck0 : 0 ≤ m.cmd.kind
  ck1 : m.cmd.kind ≤ 255
  cc0 : 0 ≤ m.cmd.client
  cc1 : m.cmd.client ≤ 255
  name : m.cmd.name.length ≤ 500
  url : m.cmd.url.length ≤ 500
  e0 : 0 ≤ m.an.err
  e1 : m.an.err ≤ 255
  text : m.an.text.length ≤ 500
theorem take_snoc {α : Type} {l : List α} {k : Nat} {d : α} (hd : l[k]? = some d) : l.take (k + 1) = l.take k ++ [d] := by
  rw [List.take_add_one, hd]
  rfl
def pre2 (l : List Int) : Bytes := (l.map fun x => be 2 (x % 65536).toNat).flatten
def pre8 (l : List Int) : Bytes := (l.map fun x => be 8 x.toNat).flatten
theorem pre2_snoc (l : List Int) (x : Int) : pre2 (l ++ [x]) = pre2 l ++ be 2 (x % 65536).toNat := by simp [pre2]
theorem pre8_snoc (l : List Int) (x : Int) : pre8 (l ++ [x]) = pre8 l ++ be 8 x.toNat := by simp [pre8]
theorem pre2_len (l : List Int) : (pre2 l).length = 2 * l.length := by
  induction l with
  | nil => rfl
  | cons x l ih => simp [pre2, be_length] at ih ⊢; omega
theorem pre8_len (l : List Int) : (pre8 l).length = 8 * l.length := by
  induction l with
  | nil => rfl
  | cons x l ih => simp [pre8, be_length] at ih ⊢; omega
theorem wrap_mod (d : Int) : IntKind.u64.wrap d % 65536 = d % 65536 := by rw [IntKind.wrap_u64]; omega
theorem u64_wrap (d : Int) : U64 (IntKind.u64.wrap d) := by rw [IntKind.wrap_u64]; exact ⟨by omega, by omega⟩
theorem oPut2w (x : Value) (l : Bytes) (d : Int) (w : World) (hl : l.length ≤ 100000) (hr : Bs w x l) : Calls Try.prog 38 #[x, .int .u64 (IntKind.u64.wrap d), .int .i64 2] w fun e w' => RetNw w w' e (l ++ be 2 (d % 65536).toNat) :=
  (oPut2 x l _ w (u64_wrap d) hl hr).mono fun _ _ h => h.eq (by rw [wrap_mod])
theorem encs_snoc {α : Type} (c : Cod α) (l : List α) (a : α) : Cod.encs c (l ++ [a]) = Cod.encs c l ++ c.enc a := by
  induction l with
  | nil => simp [Cod.encs]
  | cons x l ih => simp [Cod.encs, ih]
theorem ent_len (e : En) : (Cod.ent.enc e).length = 12 + e.data.length := by
  show (be 8 e.term.toNat ++ oputBytes [] e.data).length = _
  rw [List.length_append, be_length, oputBytes_length]
  simp
  omega
theorem ents_len (l : List En) (h : ∀ e ∈ l, e.data.length ≤ 500) : (Cod.encs Cod.ent l).length ≤ 512 * l.length := by
  induction l with
  | nil => simp [Cod.encs]
  | cons e l ih =>
    have h1 := h e List.mem_cons_self
    have h2 := ih fun x hx => h x (List.mem_cons_of_mem _ hx)
    rw [Cod.encs, List.length_append, ent_len, List.length_cons]
    omega
theorem cput_len3 (c : Cm) (hn : c.name.length ≤ 500) (hu : c.url.length ≤ 500) : (cput c).length ≤ 1500 := by
  unfold cput
  split
  · simp
  · simp [cbytes, be_length, oputBytes_length]; omega
theorem lit_cells (kd : IntKind) (l : List Int) (W : World) (T : TypeId) (g : Nat) (hg : W.heap.size = g) (j : Nat) (d : Int) (h : l[j]? = some d) : (W.alloc (.cells (l.map (Value.int kd)).toArray T)).cell? ((⟨g, 0, none⟩ : Addr).add j) = some (.int kd d) := by
  subst hg
  have hadd : (⟨W.heap.size, 0, none⟩ : Addr).add j = ⟨W.heap.size, j, none⟩ := by unfold Addr.add; split <;> simp_all
  rw [hadd, (Blk.new W T (l.map (Value.int kd)).toArray).cell]
  simp [h]
set_option maxHeartbeats 6400000 in
theorem mput_b (m : Mg) (ve vs : Value) (w : World) (hw : m.wide) (hl : m.light) (he : Enc.Sl enE w noneAt ve m.ents) (hs : Bs w vs m.snap.state) :
    Calls Try.prog 10 #[.agg (mgcells m ve vs).toArray] w fun e w' => RetBs w w' e (msgC.enc m) := by
  obtain ⟨Ae, ce, rfl, -, -⟩ := he.form
  obtain ⟨As, cs, rfl, -, -, -⟩ := id hs
  have hx0 : Ext w (w.alloc (.cells (mgcells m (.slice Ae m.ents.length ce) (.slice As m.snap.state.length cs)).toArray 33)) := (Ext.rfl' w).alloc' _
  have hM := Blk.new w 33 (mgcells m (.slice Ae m.ents.length ce) (.slice As m.snap.state.length cs)).toArray
  obtain ⟨g, hg⟩ : ∃ g, w.heap.size = g := ⟨_, rfl⟩
  rw [hg] at hM
  have hwk : IntKind.u8.wrap m.kind = m.kind := by rw [IntKind.wrap_u8]; have := hl.k0; have := hl.k1; omega
  obtain ⟨k8, hk8, hk82⟩ : ∃ b : UInt8, be 1 m.kind.toNat = [b] ∧ ((b.toNat : Nat) : Int) = m.kind := by
    refine ⟨UInt8.ofNat (m.kind.toNat / 2 ^ (8 * 0)), rfl, ?_⟩
    rw [UInt8.toNat_ofNat']
    have := hl.k0
    have := hl.k1
    simp
    omega
  have hb0 : Bs ((w.alloc (.cells (mgcells m (.slice Ae m.ents.length ce) (.slice As m.snap.state.length cs)).toArray 33)).alloc (.cells #[.int .u8 m.kind] 5)) (.slice (some ⟨g + 1, 0, none⟩) 1 1) (be 1 m.kind.toNat) := by
    rw [hk8, ← hk82]
    exact Bs.lit 5 [k8] (g + 1) (by simp [hg]) (by simp [maxLen]) (0, 0)
  clear hk8 hk82
  have hxa : Ext (w.alloc (.cells (mgcells m (.slice Ae m.ents.length ce) (.slice As m.snap.state.length cs)).toArray 33)) ((w.alloc (.cells (mgcells m (.slice Ae m.ents.length ce) (.slice As m.snap.state.length cs)).toArray 33)).alloc (.cells #[.int .u8 m.kind] 5)) := (Ext.rfl' _).alloc' _
  replace hM := hM.ext hxa
  have hx1 := hx0.trans' hxa
  go_enter Try.func10, Try.ntmps10
  go_upto_region 2 with fail
  generalize (w.alloc _).alloc _ = W1 at *
  clear hxa
  have c1 : W1.cell? ⟨g, 1, none⟩ = some (.int .i64 m.fro) := (hM.cell 1).trans rfl
  have c2 : W1.cell? ⟨g, 2, none⟩ = some (.int .i64 m.too) := (hM.cell 2).trans rfl
  obtain ⟨g1, hg1⟩ : ∃ g1, W1.heap.size = g1 := ⟨_, rfl⟩
  have hL : ∀ (j : Nat) (d : Int), [m.fro, m.too][j]? = some d → (W1.alloc (.cells #[.int .i64 m.fro, .int .i64 m.too] 3)).cell? ((⟨g1, 0, none⟩ : Addr).add j) = some (.int .i64 d) := lit_cells .i64 [m.fro, m.too] W1 3 g1 hg1
  have hxb : Ext W1 (W1.alloc (.cells #[.int .i64 m.fro, .int .i64 m.too] 3)) := (Ext.rfl' W1).alloc' _
  have hLb : g1 < (W1.alloc (.cells #[.int .i64 m.fro, .int .i64 m.too] 3)).heap.size := by rw [← hg1]; simp
  go_wp2_with fail
  generalize W1.alloc _ = W2 at *
  obtain ⟨aL, haL⟩ : ∃ a : Addr, (⟨g1, 0, none⟩ : Addr) = a := ⟨_, rfl⟩
  have hLb' : aL.block < W2.heap.size := by rw [← haL]; exact hLb
  rw [haL] at hL ⊢
  clear haL hLb
  replace hM := hM.ext hxb
  replace hb0 := hb0.ext hxb
  replace hx1 := hx1.trans' hxb
  clear c1 c2 hxb hg1
  go_loopw [3, 20] (fun vb vi wr => ∃ (k : Nat) (b : Bytes) (A : Option Addr) (c : Nat), (k : Int) ≤ 2 ∧ vb = .slice A b.length c ∧ vi = .int .i64 k ∧ Hid (b = be 1 m.kind.toNat ++ pre2 ([m.fro, m.too].take k)) ∧ Bs wr (.slice A b.length c) b ∧ Ext W2 wr) (fun _ vi _ => (2 - intOf vi).toNat)
  case atStart => exact ⟨0, be 1 m.kind.toNat, some ⟨g + 1, 0, none⟩, 1, by omega, rfl, rfl, hide (by simp [pre2]), hb0, Ext.rfl' _⟩
  case round =>
    obtain ⟨k, b, A, c, hk, rfl, rfl, hb, hbs, hxr⟩ := hrel
    have hbl : b.length ≤ 5 := by rw [hb.out, List.length_append, pre2_len, be_length, List.length_take]; simp; omega
    by_cases hlt : (k : Int) < 2
    · have HLT := hide hlt
      obtain ⟨d, hd⟩ : ∃ d, [m.fro, m.too][k]? = some d := ⟨_, List.getElem?_eq_getElem (by simp; omega)⟩
      have p0 := (hxr.cell (p := aL.add k) (by rw [block_of_add]; exact hLb')).trans (hL k d hd)
      have HD := hide hd
      clear hd
      go_wp2_with fail
      refine (oPut2w _ b d wr (by omega) hbs).mono ?_
      rintro e W3 ⟨b2, A2, c2, hb2, rfl, hz, hx3⟩
      go_wp2_with fail
      go_roundw
      case rel => exact ⟨k + 1, b2, A2, c2, by have := HLT.out; omega, rfl, by go_num, hide (by rw [hb2.out, hb.out, take_snoc HD.out, pre2_snoc, List.append_assoc]), hz.bs, hxr.trans' hx3⟩
      case measure => have := HLT.out; simp [intOf]; omega
    · obtain rfl : k = 2 := by omega
      rw [show ((2 : Nat) : Int) = 2 from rfl]
      replace hb : Hid (b = be 1 m.kind.toNat ++ pre2 [m.fro, m.too]) := hb
      replace hM := hM.ext hxr
      replace hx1 := hx1.trans' hxr
      clear hxr hL hLb' hb0 hlt hk
      have c3 : wr.cell? ⟨g, 3, none⟩ = some (.int .u64 m.term) := (hM.cell 3).trans rfl
      have c4 : wr.cell? ⟨g, 4, none⟩ = some (.int .u64 m.index) := (hM.cell 4).trans rfl
      have c5 : wr.cell? ⟨g, 5, none⟩ = some (.int .u64 m.logTerm) := (hM.cell 5).trans rfl
      have c7 : wr.cell? ⟨g, 7, none⟩ = some (.int .u64 m.commit) := (hM.cell 7).trans rfl
      have c8 : wr.cell? ⟨g, 8, none⟩ = some (.int .u64 m.round) := (hM.cell 8).trans rfl
      obtain ⟨g1, hg1⟩ : ∃ g1, wr.heap.size = g1 := ⟨_, rfl⟩
      have hL : ∀ (j : Nat) (d : Int), [m.term, m.index, m.logTerm, m.commit, m.round][j]? = some d → (wr.alloc (.cells #[.int .u64 m.term, .int .u64 m.index, .int .u64 m.logTerm, .int .u64 m.commit, .int .u64 m.round] 22)).cell? ((⟨g1, 0, none⟩ : Addr).add j) = some (.int .u64 d) := lit_cells .u64 [m.term, m.index, m.logTerm, m.commit, m.round] wr 22 g1 hg1
      have hxb : Ext wr (wr.alloc (.cells #[.int .u64 m.term, .int .u64 m.index, .int .u64 m.logTerm, .int .u64 m.commit, .int .u64 m.round] 22)) := (Ext.rfl' wr).alloc' _
      have hLb : g1 < (wr.alloc (.cells #[.int .u64 m.term, .int .u64 m.index, .int .u64 m.logTerm, .int .u64 m.commit, .int .u64 m.round] 22)).heap.size := by rw [← hg1]; simp
      go_wp2_with fail
      generalize wr.alloc _ = W4 at *
      obtain ⟨aK, haL⟩ : ∃ a : Addr, (⟨g1, 0, none⟩ : Addr) = a := ⟨_, rfl⟩
      have hLb' : aK.block < W4.heap.size := by rw [← haL]; exact hLb
      rw [haL] at hL ⊢
      clear haL hLb
      replace hM := hM.ext hxb
      replace hbs := hbs.ext hxb
      replace hx1 := hx1.trans' hxb
      clear c3 c4 c5 c7 c8 hxb hg1
      have HB := hb
      have HW : Hid m.wide := hide hw
      go_loopw [3, 41] (fun vb vi wr => ∃ (k : Nat) (b : Bytes) (A : Option Addr) (c : Nat), (k : Int) ≤ 5 ∧ vb = .slice A b.length c ∧ vi = .int .i64 k ∧ Hid (b = be 1 m.kind.toNat ++ pre2 [m.fro, m.too] ++ pre8 ([m.term, m.index, m.logTerm, m.commit, m.round].take k)) ∧ Bs wr (.slice A b.length c) b ∧ Ext W4 wr) (fun _ vi _ => (5 - intOf vi).toNat)
      case atStart => exact ⟨0, b, A, c, by omega, rfl, rfl, hide (by rw [HB.out]; simp [pre8]), hbs, Ext.rfl' _⟩
      case round =>
        clear hbs hb HB hbl
        obtain ⟨k, b, A, c, hk, rfl, rfl, hb, hbs, hxr⟩ := hrel
        have hbl : b.length ≤ 45 := by rw [hb.out, List.length_append, List.length_append, pre2_len, pre8_len, be_length, List.length_take]; simp; omega
        by_cases hlt : (k : Int) < 5
        · have HLT := hide hlt
          obtain ⟨d, hd⟩ : ∃ d, [m.term, m.index, m.logTerm, m.commit, m.round][k]? = some d := ⟨_, List.getElem?_eq_getElem (by simp; omega)⟩
          have p0 := (hxr.cell (p := aK.add k) (by rw [block_of_add]; exact hLb')).trans (hL k d hd)
          have hud : U64 d := by
            have := List.mem_of_getElem? hd
            simp only [List.mem_cons, List.not_mem_nil, or_false] at this
            rcases this with rfl | rfl | rfl | rfl | rfl
            · exact HW.out.term
            · exact HW.out.index
            · exact HW.out.logTerm
            · exact HW.out.commit
            · exact HW.out.round
          have HD := hide hd
          clear hd
          go_wp2_with fail
          refine (oPut8 _ b d wr hud (by omega) hbs).mono ?_
          rintro e W3 ⟨b2, A2, c2, hb2, rfl, hz, hx3⟩
          go_wp2_with fail
          go_roundw
          case rel => exact ⟨k + 1, b2, A2, c2, by have := HLT.out; omega, rfl, by go_num, hide (by rw [hb2.out, hb.out, take_snoc HD.out, pre8_snoc]; simp only [List.append_assoc]), hz.bs, hxr.trans' hx3⟩
          case measure => have := HLT.out; simp [intOf]; omega
        · obtain rfl : k = 5 := by omega
          rw [show ((5 : Nat) : Int) = 5 from rfl]
          replace hb : Hid (b = be 1 m.kind.toNat ++ pre2 [m.fro, m.too] ++ pre8 [m.term, m.index, m.logTerm, m.commit, m.round]) := hb
          replace hM := hM.ext hxr
          replace hx1 := hx1.trans' hxr
          clear hxr hL hLb' hlt hk
          obtain ⟨fl, hfl⟩ : ∃ v : Int, (if m.ok = true then (1 : Int) else 0) = v := ⟨_, rfl⟩
          have hfu : U64 fl := by rw [← hfl]; split <;> exact ⟨by decide, by decide⟩
          have HFB : Hid (∀ W, Calls Try.prog 39 #[.bool m.ok] W fun e w' => e = .returned (.int .u64 fl) ∧ W = w') := hide (by rw [← hfl]; exact flag_b m.ok)
          have HFL := hide hfl
          clear hfl
          have hen := hl.ents
          have HWR : IntKind.u64.wrap m.ents.length = m.ents.length := by rw [IntKind.wrap_u64]; omega
          have hxa := Ext.rfl' wr
          go_upto_region 12 with fail
          refine Rg.regionT Try.checked.mixed 103 11 (by kernel_rfl) [
            (fun x_ _ => x_ = .slice A b.length c),
            (fun x_ _ => x_ = .pointer (some ⟨g, 9, none⟩)),
            (fun x_ _ => x_ = .bool m.ok),
            (fun x_ _ => x_ = .int .u64 fl),
            (fun v W => Bs W v (b ++ be 1 fl.toNat)),
            (fun x_ _ => x_ = .pointer (some ⟨g, 6, none⟩)),
            (fun x_ _ => x_ = .slice Ae m.ents.length ce),
            (fun x_ _ => x_ = .int .i64 m.ents.length),
            (fun x_ _ => x_ = .int .u64 m.ents.length),
            (fun v W => Bs W v (b ++ be 1 fl.toNat ++ be 2 ((m.ents.length : Int) % 65536).toNat)),
            (fun v W => Bs W v (b ++ be 1 fl.toNat ++ be 2 ((m.ents.length : Int) % 65536).toNat))] (fun W => Ext wr W) Ext rfl rfl rfl
            ?st ((Ext.rfl' wr).drew') ?ob ?en
          case st => exact ⟨fun _ _ _ h _ => h, fun _ _ _ h _ => h, fun _ _ _ h _ => h, fun _ _ _ h _ => h, fun _ _ _ h hx => h.ext hx, fun _ _ _ h _ => h, fun _ _ _ h _ => h, fun _ _ _ h _ => h, fun _ _ _ h _ => h, fun _ _ _ h hx => h.ext hx, fun _ _ _ h hx => h.ext hx, trivial⟩
          case ob =>
            refine ⟨Rg.at_run [3] rfl ?_, ?_⟩
            · intro ρ W hR ⟨q3, _⟩
              replace q3 : ρ 3 = .slice A b.length c := q3
              refine ⟨rfl, ?_⟩
              exact Rg.run_ok (v := .slice A b.length c) (by simp [execOp, Rg.ev, go_sem, q3]) ⟨rfl, hR, Ext.rfl' _⟩
            refine ⟨Rg.at_run [1] rfl ?_, ?_⟩
            · intro ρ W hR ⟨q1, _⟩
              replace q1 : ρ 1 = .pointer (some ⟨g, 0, none⟩) := q1
              refine ⟨rfl, ?_⟩
              exact Rg.run_ok (v := .pointer (some ⟨g, 9, none⟩)) (by simp [execOp, Rg.ev, go_sem, q1]) ⟨rfl, hR, Ext.rfl' _⟩
            refine ⟨Rg.at_run [50] rfl ?_, ?_⟩
            · intro ρ W hR ⟨q50, _⟩
              replace q50 : ρ 50 = .pointer (some ⟨g, 9, none⟩) := q50
              refine ⟨rfl, ?_⟩
              have c9_ : W.cell? ⟨g, 9, none⟩ = some (.bool m.ok) := ((hM.ext hR).cell 9).trans rfl
              exact Rg.run_ok (v := .bool m.ok) (by simp [execOp, Rg.ev, go_sem, q50, c9_]) ⟨rfl, hR, Ext.rfl' _⟩
            refine ⟨Rg.at_run [51] rfl ?_, ?_⟩
            · intro ρ W hR ⟨q51, _⟩
              replace q51 : ρ 51 = .bool m.ok := q51
              refine ⟨rfl, ?_⟩
              refine Rg.run_enter (by simp [execOp, Rg.ev, go_sem, q51]; exact ⟨⟨rfl, rfl⟩, rfl⟩) ?_
              refine (HFB.out W).mono ?_
              rintro e_ w2 ⟨rfl, rfl⟩
              exact ⟨_, rfl, rfl, hR, Ext.rfl' _⟩
            refine ⟨Rg.at_run [49, 52] rfl ?_, ?_⟩
            · intro ρ W hR ⟨q49, q52, _⟩
              replace q49 : ρ 49 = .slice A b.length c := q49
              replace q52 : ρ 52 = .int .u64 fl := q52
              refine ⟨rfl, ?_⟩
              refine Rg.run_enter (by simp [execOp, Rg.ev, go_sem, q49, q52]; exact ⟨⟨rfl, rfl⟩, rfl⟩) ?_
              refine (oPut1 _ b fl W hfu (by omega) (hbs.ext hR)).mono ?_
              rintro e w2 ⟨m, Am, cm, hm, rfl, hz, hxx⟩
              have hm' := hm.out
              subst hm'
              exact ⟨_, rfl, hz.bs, hR.trans' hxx, hxx⟩
            refine ⟨Rg.at_run [1] rfl ?_, ?_⟩
            · intro ρ W hR ⟨q1, _⟩
              replace q1 : ρ 1 = .pointer (some ⟨g, 0, none⟩) := q1
              refine ⟨rfl, ?_⟩
              exact Rg.run_ok (v := .pointer (some ⟨g, 6, none⟩)) (by simp [execOp, Rg.ev, go_sem, q1]) ⟨rfl, hR, Ext.rfl' _⟩
            refine ⟨Rg.at_run [54] rfl ?_, ?_⟩
            · intro ρ W hR ⟨q54, _⟩
              replace q54 : ρ 54 = .pointer (some ⟨g, 6, none⟩) := q54
              refine ⟨rfl, ?_⟩
              have c6_ : W.cell? ⟨g, 6, none⟩ = some (.slice Ae m.ents.length ce) := ((hM.ext hR).cell 6).trans rfl
              exact Rg.run_ok (v := .slice Ae m.ents.length ce) (by simp [execOp, Rg.ev, go_sem, q54, c6_]) ⟨rfl, hR, Ext.rfl' _⟩
            refine ⟨Rg.at_run [55] rfl ?_, ?_⟩
            · intro ρ W hR ⟨q55, _⟩
              replace q55 : ρ 55 = .slice Ae m.ents.length ce := q55
              refine ⟨rfl, ?_⟩
              exact Rg.run_ok (v := .int .i64 m.ents.length) (by simp [execOp, Rg.ev, go_sem, q55]) ⟨rfl, hR, Ext.rfl' _⟩
            refine ⟨Rg.at_run [56] rfl ?_, ?_⟩
            · intro ρ W hR ⟨q56, _⟩
              replace q56 : ρ 56 = .int .i64 m.ents.length := q56
              refine ⟨rfl, ?_⟩
              exact Rg.run_ok (v := .int .u64 m.ents.length) (by simp [execOp, Rg.ev, go_sem, q56, HWR]) ⟨rfl, hR, Ext.rfl' _⟩
            refine ⟨Rg.at_run [53, 57] rfl ?_, ?_⟩
            · intro ρ W hR ⟨q53, q57, _⟩
              replace q53 : (fun v W => Bs W v (b ++ be 1 fl.toNat)) (ρ 53) W := q53
              replace q57 : ρ 57 = .int .u64 m.ents.length := q57
              refine ⟨rfl, ?_⟩
              refine Rg.run_enter (by simp [execOp, Rg.ev, go_sem, q57]; exact ⟨⟨rfl, rfl⟩, rfl⟩) ?_
              refine (oPut2 _ (b ++ be 1 fl.toNat) m.ents.length W ⟨by omega, by omega⟩ (by simp [be_length]; omega) q53).mono ?_
              rintro e w2 ⟨m, Am, cm, hm, rfl, hz, hxx⟩
              have hm' := hm.out
              subst hm'
              exact ⟨_, rfl, hz.bs, hR.trans' hxx, hxx⟩
            refine ⟨Rg.at_run [58] rfl ?_, ?_⟩
            · intro ρ W hR ⟨q58, _⟩
              replace q58 : (fun v W => Bs W v (b ++ be 1 fl.toNat ++ be 2 ((m.ents.length : Int) % 65536).toNat)) (ρ 58) W := q58
              refine ⟨rfl, ?_⟩
              exact Rg.run_ok (by simp [execOp, Rg.ev, go_sem] <;> rfl) ⟨q58, hR, Ext.rfl' _⟩
            trivial
          case en =>
            intro tm W hR hsz hk
            rw [Rg.fin_eq (ds := [49, 50, 51, 52, 53, 54, 55, 56, 57, 58, 3]) rfl rfl rfl hsz hk]
            have k3 : (fun v W => Bs W v (b ++ be 1 fl.toNat ++ be 2 ((m.ents.length : Int) % 65536).toNat)) (tm.getD 3 undef) W := hk 3
            have k49 : tm.getD 49 undef = .slice A b.length c := hk 49
            have k50 : tm.getD 50 undef = .pointer (some ⟨g, 9, none⟩) := hk 50
            have k51 : tm.getD 51 undef = .bool m.ok := hk 51
            have k52 : tm.getD 52 undef = .int .u64 fl := hk 52
            have k53 : (fun v W => Bs W v (b ++ be 1 fl.toNat)) (tm.getD 53 undef) W := hk 53
            have k54 : tm.getD 54 undef = .pointer (some ⟨g, 6, none⟩) := hk 54
            have k55 : tm.getD 55 undef = .slice Ae m.ents.length ce := hk 55
            have k56 : tm.getD 56 undef = .int .i64 m.ents.length := hk 56
            have k57 : tm.getD 57 undef = .int .u64 m.ents.length := hk 57
            have k58 : (fun v W => Bs W v (b ++ be 1 fl.toNat ++ be 2 ((m.ents.length : Int) % 65536).toNat)) (tm.getD 58 undef) W := hk 58
            clear hk hsz
            simp only [Rg.putAll, List.setIfInBounds_toArray, List.set_cons_zero, List.set_cons_succ, k49, k50, k51, k52, k54, k55, k56, k57]
            generalize tm.getD 3 undef = u3 at *
            clear k49
            clear k50
            clear k51
            clear k52
            generalize tm.getD 53 undef = u53 at *
            clear k54
            clear k55
            clear k56
            clear k57
            generalize tm.getD 58 undef = u58 at *
            refine Rg.nil_list ?_
            have k3' : Bs W u3 (b ++ be 1 fl.toNat ++ be 2 m.ents.length) := by
              have e : ((m.ents.length : Int) % 65536).toNat = m.ents.length := by omega
              rw [e] at k3
              exact k3
            replace hM := hM.ext hR
            replace hx1 := hx1.trans' hR
            clear k3 k53 k58 hwk HFB hbs hxa
            obtain ⟨b1, hb1, hbs⟩ : ∃ b1 : Bytes, Hid (b1 = b ++ be 1 fl.toNat ++ be 2 m.ents.length) ∧ Bs W u3 b1 := ⟨_, rfl, k3'⟩
            have hbl1 : b1.length ≤ 48 := by rw [hb1.out]; simp [be_length]; omega
            clear k3'
            obtain ⟨A3, c3, rfl, -, -, -⟩ := id hbs
            have c6 : W.cell? ⟨g, 6, none⟩ = some (.slice Ae m.ents.length ce) := (hM.cell 6).trans rfl
            have HB1 := hb1
            go_wp2_with fail
            clear c6
            go_loopw [3, 62] (fun vb vi wr => ∃ (k : Nat) (b : Bytes) (A : Option Addr) (c : Nat), (k : Int) ≤ m.ents.length ∧ vb = .slice A b.length c ∧ vi = .int .i64 k ∧ Hid (b = b1 ++ Cod.encs Cod.ent (m.ents.take k)) ∧ Bs wr (.slice A b.length c) b ∧ Ext W wr) (fun _ vi _ => (m.ents.length - intOf vi).toNat)
            case atStart => exact ⟨0, b1, A3, c3, by omega, rfl, rfl, hide (by simp [Cod.encs]), hbs, Ext.rfl' _⟩
            case round =>
              clear HB1 hbs hbl hR
              have HBB := hb
              clear hb
              obtain ⟨k, b2, A, c, hk, rfl, rfl, hb, hbs, hxr⟩ := hrel
              have hbl : b2.length ≤ 30768 := by
                rw [hb.out, List.length_append]
                have := ents_len (m.ents.take k) fun e he => hl.datas e (List.mem_of_mem_take he)
                rw [List.length_take] at this
                have := hl.ents
                omega
              by_cases hlt : (k : Int) < m.ents.length
              · have HLT := hide hlt
                obtain ⟨ad, e0, v0, rfl, hr, hbk, p0, p1, r1, r2⟩ := en_at (he.ext (hx1.trans' hxr)) (k := k) (by omega)
                have hdl := hl.datas e0 (List.mem_of_getElem? hr.out)
                have HR := hide r1
                have hrb := r2.1
                clear r1 r2
                obtain ⟨Ad, cd, rfl, -, -, -⟩ := id hrb
                obtain ⟨g9, hg9⟩ : ∃ g9, wr.heap.size = g9 := ⟨_, rfl⟩
                have HE := Blk.new wr 74 #[.int .u64 e0.term, .slice Ad e0.data.length cd]
                have hxe : Ext wr (wr.alloc (.cells #[.int .u64 e0.term, .slice Ad e0.data.length cd] 74)) := (Ext.rfl' wr).alloc' _
                rw [hg9] at HE
                go_upto_region 16 with fail
                generalize wr.alloc _ = W5 at *
                clear p0 p1 hg9
                replace hrb := hrb.ext hxe
                replace hbs := hbs.ext hxe
                replace hxr := hxr.trans' hxe
                clear hxe
                refine Rg.regionT Try.checked.mixed 103 8 (by kernel_rfl) [
                  (fun x_ _ => x_ = .slice A b2.length c),
                  (fun x_ _ => x_ = .pointer (some ⟨g9, 0, none⟩)),
                  (fun x_ _ => x_ = .int .u64 e0.term),
                  (fun v W => Bs W v (b2 ++ be 8 e0.term.toNat)),
                  (fun x_ _ => x_ = .pointer (some ⟨g9, 1, none⟩)),
                  (fun x_ _ => x_ = .slice Ad e0.data.length cd),
                  (fun v W => Bs W v (b2 ++ be 8 e0.term.toNat ++ oputBytes [] e0.data)),
                  (fun v W => Bs W v (b2 ++ be 8 e0.term.toNat ++ oputBytes [] e0.data))] (fun W => Ext W5 W) Ext rfl rfl rfl
                  ?st ((Ext.rfl' W5).drew') ?ob ?en
                case st => exact ⟨fun _ _ _ h _ => h, fun _ _ _ h _ => h, fun _ _ _ h _ => h, fun _ _ _ h hx => h.ext hx, fun _ _ _ h _ => h, fun _ _ _ h _ => h, fun _ _ _ h hx => h.ext hx, fun _ _ _ h hx => h.ext hx, trivial⟩
                case ob =>
                  refine ⟨Rg.at_run [3] rfl ?_, ?_⟩
                  · intro ρ W hR ⟨q3, _⟩
                    replace q3 : ρ 3 = .slice A b2.length c := q3
                    refine ⟨rfl, ?_⟩
                    exact Rg.run_ok (v := .slice A b2.length c) (by simp [execOp, Rg.ev, go_sem, q3]) ⟨rfl, hR, Ext.rfl' _⟩
                  refine ⟨Rg.at_run [9] rfl ?_, ?_⟩
                  · intro ρ W hR ⟨q9, _⟩
                    replace q9 : ρ 9 = .pointer (some ⟨g9, 0, none⟩) := q9
                    refine ⟨rfl, ?_⟩
                    exact Rg.run_ok (v := .pointer (some ⟨g9, 0, none⟩)) (by simp [execOp, Rg.ev, go_sem, q9]) ⟨rfl, hR, Ext.rfl' _⟩
                  refine ⟨Rg.at_run [67] rfl ?_, ?_⟩
                  · intro ρ W hR ⟨q67, _⟩
                    replace q67 : ρ 67 = .pointer (some ⟨g9, 0, none⟩) := q67
                    refine ⟨rfl, ?_⟩
                    have c0_ : W.cell? ⟨g9, 0, none⟩ = some (.int .u64 e0.term) := ((HE.ext hR).cell 0).trans rfl
                    exact Rg.run_ok (v := .int .u64 e0.term) (by simp [execOp, Rg.ev, go_sem, q67, c0_]) ⟨rfl, hR, Ext.rfl' _⟩
                  refine ⟨Rg.at_run [66, 68] rfl ?_, ?_⟩
                  · intro ρ W hR ⟨q66, q68, _⟩
                    replace q66 : ρ 66 = .slice A b2.length c := q66
                    replace q68 : ρ 68 = .int .u64 e0.term := q68
                    refine ⟨rfl, ?_⟩
                    refine Rg.run_enter (by simp [execOp, Rg.ev, go_sem, q66, q68]; exact ⟨⟨rfl, rfl⟩, rfl⟩) ?_
                    refine (oPut8 _ b2 e0.term W HR.out (by omega) (hbs.ext hR)).mono ?_
                    rintro e w2 ⟨m, Am, cm, hm, rfl, hz, hxx⟩
                    have hm' := hm.out
                    subst hm'
                    exact ⟨_, rfl, hz.bs, hR.trans' hxx, hxx⟩
                  refine ⟨Rg.at_run [9] rfl ?_, ?_⟩
                  · intro ρ W hR ⟨q9, _⟩
                    replace q9 : ρ 9 = .pointer (some ⟨g9, 0, none⟩) := q9
                    refine ⟨rfl, ?_⟩
                    exact Rg.run_ok (v := .pointer (some ⟨g9, 1, none⟩)) (by simp [execOp, Rg.ev, go_sem, q9]) ⟨rfl, hR, Ext.rfl' _⟩
                  refine ⟨Rg.at_run [70] rfl ?_, ?_⟩
                  · intro ρ W hR ⟨q70, _⟩
                    replace q70 : ρ 70 = .pointer (some ⟨g9, 1, none⟩) := q70
                    refine ⟨rfl, ?_⟩
                    have c1_ : W.cell? ⟨g9, 1, none⟩ = some (.slice Ad e0.data.length cd) := ((HE.ext hR).cell 1).trans rfl
                    exact Rg.run_ok (v := .slice Ad e0.data.length cd) (by simp [execOp, Rg.ev, go_sem, q70, c1_]) ⟨rfl, hR, Ext.rfl' _⟩
                  refine ⟨Rg.at_run [69, 71] rfl ?_, ?_⟩
                  · intro ρ W hR ⟨q69, q71, _⟩
                    replace q69 : (fun v W => Bs W v (b2 ++ be 8 e0.term.toNat)) (ρ 69) W := q69
                    replace q71 : ρ 71 = .slice Ad e0.data.length cd := q71
                    refine ⟨rfl, ?_⟩
                    refine Rg.run_enter (by simp [execOp, Rg.ev, go_sem, q71]; exact ⟨⟨rfl, rfl⟩, rfl⟩) ?_
                    refine (oPutB _ _ (b2 ++ be 8 e0.term.toNat) e0.data W (by simp [be_length]; omega) q69 (hrb.ext hR)).mono ?_
                    rintro e w2 ⟨m, Am, cm, hm, rfl, hz, hxx⟩
                    have hm' := hm.out
                    subst hm'
                    exact ⟨_, rfl, hz.bs, hR.trans' hxx, hxx⟩
                  refine ⟨Rg.at_run [72] rfl ?_, ?_⟩
                  · intro ρ W hR ⟨q72, _⟩
                    replace q72 : (fun v W => Bs W v (b2 ++ be 8 e0.term.toNat ++ oputBytes [] e0.data)) (ρ 72) W := q72
                    refine ⟨rfl, ?_⟩
                    exact Rg.run_ok (by simp [execOp, Rg.ev, go_sem] <;> rfl) ⟨q72, hR, Ext.rfl' _⟩
                  trivial
                case en =>
                  intro tm W hR hsz hk
                  rw [Rg.fin_eq (ds := [66, 67, 68, 69, 70, 71, 72, 3]) rfl rfl rfl hsz hk]
                  have k3 : (fun v W => Bs W v (b2 ++ be 8 e0.term.toNat ++ oputBytes [] e0.data)) (tm.getD 3 undef) W := hk 3
                  have k66 : tm.getD 66 undef = .slice A b2.length c := hk 66
                  have k67 : tm.getD 67 undef = .pointer (some ⟨g9, 0, none⟩) := hk 67
                  have k68 : tm.getD 68 undef = .int .u64 e0.term := hk 68
                  have k69 : (fun v W => Bs W v (b2 ++ be 8 e0.term.toNat)) (tm.getD 69 undef) W := hk 69
                  have k70 : tm.getD 70 undef = .pointer (some ⟨g9, 1, none⟩) := hk 70
                  have k71 : tm.getD 71 undef = .slice Ad e0.data.length cd := hk 71
                  have k72 : (fun v W => Bs W v (b2 ++ be 8 e0.term.toNat ++ oputBytes [] e0.data)) (tm.getD 72 undef) W := hk 72
                  clear hk hsz
                  simp only [Rg.putAll, List.setIfInBounds_toArray, List.set_cons_zero, List.set_cons_succ, k66, k67, k68, k70, k71]
                  generalize tm.getD 3 undef = u3 at *
                  clear k66
                  clear k67
                  clear k68
                  generalize tm.getD 69 undef = u69 at *
                  clear k70
                  clear k71
                  generalize tm.getD 72 undef = u72 at *
                  refine Rg.nil_list ?_
                  replace hxr := hxr.trans' hR
                  have HZ : Hid (b2 ++ be 8 e0.term.toNat ++ oputBytes [] e0.data = b1 ++ Cod.encs Cod.ent (m.ents.take (k + 1))) := hide (by
                    rw [take_snoc hr.out, encs_snoc, hb.out]
                    show _ = b1 ++ (_ ++ (be 8 e0.term.toNat ++ oputBytes [] e0.data))
                    simp only [List.append_assoc])
                  clear hb hr
                  rw [HZ.out] at k3
                  obtain ⟨Az, cz, rfl, -, -, -⟩ := id k3
                  go_wp2_with fail
                  go_roundw
                  case rel => exact ⟨k + 1, _, Az, cz, by have := HLT.out; omega, rfl, by go_num, rfl, k3, hxr⟩
                  case measure => have := HLT.out; simp [intOf]; omega
              · obtain rfl : k = m.ents.length := by omega
                replace hb : Hid (b2 = b1 ++ Cod.encs Cod.ent m.ents) := by rw [List.take_length] at hb; exact hb
                replace hM := hM.ext hxr
                replace hx1 := hx1.trans' hxr
                replace hs := hs.ext hx1
                clear hlt hk hxr
                go_upto_region 18 with fail
                refine Rg.regionT Try.checked.mixed 103 14 (by kernel_rfl) [
                  (fun x_ _ => x_ = .slice A b2.length c),
                  (fun x_ _ => x_ = .pointer (some ⟨g, 10, none⟩)),
                  (fun x_ _ => x_ = .pointer (some ⟨g, 10, none⟩)),
                  (fun x_ _ => x_ = .int .u64 m.snap.index),
                  (fun v W => Bs W v (b2 ++ be 8 m.snap.index.toNat)),
                  (fun x_ _ => x_ = .pointer (some ⟨g, 10, none⟩)),
                  (fun x_ _ => x_ = .pointer (some ⟨g, 11, none⟩)),
                  (fun x_ _ => x_ = .int .u64 m.snap.term),
                  (fun v W => Bs W v (b2 ++ be 8 m.snap.index.toNat ++ be 8 m.snap.term.toNat)),
                  (fun x_ _ => x_ = .pointer (some ⟨g, 10, none⟩)),
                  (fun x_ _ => x_ = .pointer (some ⟨g, 12, none⟩)),
                  (fun x_ _ => x_ = .slice As m.snap.state.length cs),
                  (fun v W => Bs W v (b2 ++ be 8 m.snap.index.toNat ++ be 8 m.snap.term.toNat ++ oputBytes [] m.snap.state)),
                  (fun v W => Bs W v (b2 ++ be 8 m.snap.index.toNat ++ be 8 m.snap.term.toNat ++ oputBytes [] m.snap.state))] (fun W => Ext wr W) Ext rfl rfl rfl
                  ?st ((Ext.rfl' wr).drew') ?ob ?en
                case st => exact ⟨fun _ _ _ h _ => h, fun _ _ _ h _ => h, fun _ _ _ h _ => h, fun _ _ _ h _ => h, fun _ _ _ h hx => h.ext hx, fun _ _ _ h _ => h, fun _ _ _ h _ => h, fun _ _ _ h _ => h, fun _ _ _ h hx => h.ext hx, fun _ _ _ h _ => h, fun _ _ _ h _ => h, fun _ _ _ h _ => h, fun _ _ _ h hx => h.ext hx, fun _ _ _ h hx => h.ext hx, trivial⟩
                case ob =>
                  refine ⟨Rg.at_run [3] rfl ?_, ?_⟩
                  · intro ρ W hR ⟨q3, _⟩
                    replace q3 : ρ 3 = .slice A b2.length c := q3
                    refine ⟨rfl, ?_⟩
                    exact Rg.run_ok (v := .slice A b2.length c) (by simp [execOp, Rg.ev, go_sem, q3]) ⟨rfl, hR, Ext.rfl' _⟩
                  refine ⟨Rg.at_run [1] rfl ?_, ?_⟩
                  · intro ρ W hR ⟨q1, _⟩
                    replace q1 : ρ 1 = .pointer (some ⟨g, 0, none⟩) := q1
                    refine ⟨rfl, ?_⟩
                    exact Rg.run_ok (v := .pointer (some ⟨g, 10, none⟩)) (by simp [execOp, Rg.ev, go_sem, q1]) ⟨rfl, hR, Ext.rfl' _⟩
                  refine ⟨Rg.at_run [75] rfl ?_, ?_⟩
                  · intro ρ W hR ⟨q75, _⟩
                    replace q75 : ρ 75 = .pointer (some ⟨g, 10, none⟩) := q75
                    refine ⟨rfl, ?_⟩
                    exact Rg.run_ok (v := .pointer (some ⟨g, 10, none⟩)) (by simp [execOp, Rg.ev, go_sem, q75]) ⟨rfl, hR, Ext.rfl' _⟩
                  refine ⟨Rg.at_run [76] rfl ?_, ?_⟩
                  · intro ρ W hR ⟨q76, _⟩
                    replace q76 : ρ 76 = .pointer (some ⟨g, 10, none⟩) := q76
                    refine ⟨rfl, ?_⟩
                    have c10_ : W.cell? ⟨g, 10, none⟩ = some (.int .u64 m.snap.index) := ((hM.ext hR).cell 10).trans rfl
                    exact Rg.run_ok (v := .int .u64 m.snap.index) (by simp [execOp, Rg.ev, go_sem, q76, c10_]) ⟨rfl, hR, Ext.rfl' _⟩
                  refine ⟨Rg.at_run [74, 77] rfl ?_, ?_⟩
                  · intro ρ W hR ⟨q74, q77, _⟩
                    replace q74 : ρ 74 = .slice A b2.length c := q74
                    replace q77 : ρ 77 = .int .u64 m.snap.index := q77
                    refine ⟨rfl, ?_⟩
                    refine Rg.run_enter (by simp [execOp, Rg.ev, go_sem, q74, q77]; exact ⟨⟨rfl, rfl⟩, rfl⟩) ?_
                    refine (oPut8 _ b2 m.snap.index W HW.out.si (by omega) (hbs.ext hR)).mono ?_
                    rintro e w2 ⟨m, Am, cm, hm, rfl, hz, hxx⟩
                    have hm' := hm.out
                    subst hm'
                    exact ⟨_, rfl, hz.bs, hR.trans' hxx, hxx⟩
                  refine ⟨Rg.at_run [1] rfl ?_, ?_⟩
                  · intro ρ W hR ⟨q1, _⟩
                    replace q1 : ρ 1 = .pointer (some ⟨g, 0, none⟩) := q1
                    refine ⟨rfl, ?_⟩
                    exact Rg.run_ok (v := .pointer (some ⟨g, 10, none⟩)) (by simp [execOp, Rg.ev, go_sem, q1]) ⟨rfl, hR, Ext.rfl' _⟩
                  refine ⟨Rg.at_run [79] rfl ?_, ?_⟩
                  · intro ρ W hR ⟨q79, _⟩
                    replace q79 : ρ 79 = .pointer (some ⟨g, 10, none⟩) := q79
                    refine ⟨rfl, ?_⟩
                    exact Rg.run_ok (v := .pointer (some ⟨g, 11, none⟩)) (by simp [execOp, Rg.ev, go_sem, q79]) ⟨rfl, hR, Ext.rfl' _⟩
                  refine ⟨Rg.at_run [80] rfl ?_, ?_⟩
                  · intro ρ W hR ⟨q80, _⟩
                    replace q80 : ρ 80 = .pointer (some ⟨g, 11, none⟩) := q80
                    refine ⟨rfl, ?_⟩
                    have c11_ : W.cell? ⟨g, 11, none⟩ = some (.int .u64 m.snap.term) := ((hM.ext hR).cell 11).trans rfl
                    exact Rg.run_ok (v := .int .u64 m.snap.term) (by simp [execOp, Rg.ev, go_sem, q80, c11_]) ⟨rfl, hR, Ext.rfl' _⟩
                  refine ⟨Rg.at_run [78, 81] rfl ?_, ?_⟩
                  · intro ρ W hR ⟨q78, q81, _⟩
                    replace q78 : (fun v W => Bs W v (b2 ++ be 8 m.snap.index.toNat)) (ρ 78) W := q78
                    replace q81 : ρ 81 = .int .u64 m.snap.term := q81
                    refine ⟨rfl, ?_⟩
                    refine Rg.run_enter (by simp [execOp, Rg.ev, go_sem, q81]; exact ⟨⟨rfl, rfl⟩, rfl⟩) ?_
                    refine (oPut8 _ (b2 ++ be 8 m.snap.index.toNat) m.snap.term W HW.out.st (by simp [be_length]; omega) q78).mono ?_
                    rintro e w2 ⟨m, Am, cm, hm, rfl, hz, hxx⟩
                    have hm' := hm.out
                    subst hm'
                    exact ⟨_, rfl, hz.bs, hR.trans' hxx, hxx⟩
                  refine ⟨Rg.at_run [1] rfl ?_, ?_⟩
                  · intro ρ W hR ⟨q1, _⟩
                    replace q1 : ρ 1 = .pointer (some ⟨g, 0, none⟩) := q1
                    refine ⟨rfl, ?_⟩
                    exact Rg.run_ok (v := .pointer (some ⟨g, 10, none⟩)) (by simp [execOp, Rg.ev, go_sem, q1]) ⟨rfl, hR, Ext.rfl' _⟩
                  refine ⟨Rg.at_run [83] rfl ?_, ?_⟩
                  · intro ρ W hR ⟨q83, _⟩
                    replace q83 : ρ 83 = .pointer (some ⟨g, 10, none⟩) := q83
                    refine ⟨rfl, ?_⟩
                    exact Rg.run_ok (v := .pointer (some ⟨g, 12, none⟩)) (by simp [execOp, Rg.ev, go_sem, q83]) ⟨rfl, hR, Ext.rfl' _⟩
                  refine ⟨Rg.at_run [84] rfl ?_, ?_⟩
                  · intro ρ W hR ⟨q84, _⟩
                    replace q84 : ρ 84 = .pointer (some ⟨g, 12, none⟩) := q84
                    refine ⟨rfl, ?_⟩
                    have c12_ : W.cell? ⟨g, 12, none⟩ = some (.slice As m.snap.state.length cs) := ((hM.ext hR).cell 12).trans rfl
                    exact Rg.run_ok (v := .slice As m.snap.state.length cs) (by simp [execOp, Rg.ev, go_sem, q84, c12_]) ⟨rfl, hR, Ext.rfl' _⟩
                  refine ⟨Rg.at_run [82, 85] rfl ?_, ?_⟩
                  · intro ρ W hR ⟨q82, q85, _⟩
                    replace q82 : (fun v W => Bs W v (b2 ++ be 8 m.snap.index.toNat ++ be 8 m.snap.term.toNat)) (ρ 82) W := q82
                    replace q85 : ρ 85 = .slice As m.snap.state.length cs := q85
                    refine ⟨rfl, ?_⟩
                    refine Rg.run_enter (by simp [execOp, Rg.ev, go_sem, q85]; exact ⟨⟨rfl, rfl⟩, rfl⟩) ?_
                    refine (oPutB _ _ (b2 ++ be 8 m.snap.index.toNat ++ be 8 m.snap.term.toNat) m.snap.state W (by have := hl.state; simp [be_length]; omega) q82 (hs.ext hR)).mono ?_
                    rintro e w2 ⟨m, Am, cm, hm, rfl, hz, hxx⟩
                    have hm' := hm.out
                    subst hm'
                    exact ⟨_, rfl, hz.bs, hR.trans' hxx, hxx⟩
                  refine ⟨Rg.at_run [86] rfl ?_, ?_⟩
                  · intro ρ W hR ⟨q86, _⟩
                    replace q86 : (fun v W => Bs W v (b2 ++ be 8 m.snap.index.toNat ++ be 8 m.snap.term.toNat ++ oputBytes [] m.snap.state)) (ρ 86) W := q86
                    refine ⟨rfl, ?_⟩
                    exact Rg.run_ok (by simp [execOp, Rg.ev, go_sem] <;> rfl) ⟨q86, hR, Ext.rfl' _⟩
                  trivial
                case en =>
                  intro tm W hR hsz hk
                  rw [Rg.fin_eq (ds := [74, 75, 76, 77, 78, 79, 80, 81, 82, 83, 84, 85, 86, 3]) rfl rfl rfl hsz hk]
                  have k3 : (fun v W => Bs W v (b2 ++ be 8 m.snap.index.toNat ++ be 8 m.snap.term.toNat ++ oputBytes [] m.snap.state)) (tm.getD 3 undef) W := hk 3
                  have k74 : tm.getD 74 undef = .slice A b2.length c := hk 74
                  have k75 : tm.getD 75 undef = .pointer (some ⟨g, 10, none⟩) := hk 75
                  have k76 : tm.getD 76 undef = .pointer (some ⟨g, 10, none⟩) := hk 76
                  have k77 : tm.getD 77 undef = .int .u64 m.snap.index := hk 77
                  have k78 : (fun v W => Bs W v (b2 ++ be 8 m.snap.index.toNat)) (tm.getD 78 undef) W := hk 78
                  have k79 : tm.getD 79 undef = .pointer (some ⟨g, 10, none⟩) := hk 79
                  have k80 : tm.getD 80 undef = .pointer (some ⟨g, 11, none⟩) := hk 80
                  have k81 : tm.getD 81 undef = .int .u64 m.snap.term := hk 81
                  have k82 : (fun v W => Bs W v (b2 ++ be 8 m.snap.index.toNat ++ be 8 m.snap.term.toNat)) (tm.getD 82 undef) W := hk 82
                  have k83 : tm.getD 83 undef = .pointer (some ⟨g, 10, none⟩) := hk 83
                  have k84 : tm.getD 84 undef = .pointer (some ⟨g, 12, none⟩) := hk 84
                  have k85 : tm.getD 85 undef = .slice As m.snap.state.length cs := hk 85
                  have k86 : (fun v W => Bs W v (b2 ++ be 8 m.snap.index.toNat ++ be 8 m.snap.term.toNat ++ oputBytes [] m.snap.state)) (tm.getD 86 undef) W := hk 86
                  clear hk hsz
                  simp only [Rg.putAll, List.setIfInBounds_toArray, List.set_cons_zero, List.set_cons_succ, k74, k75, k76, k77, k79, k80, k81, k83, k84, k85]
                  generalize tm.getD 3 undef = u3 at *
                  clear k74
                  clear k75
                  clear k76
                  clear k77
                  generalize tm.getD 78 undef = u78 at *
                  clear k79
                  clear k80
                  clear k81
                  generalize tm.getD 82 undef = u82 at *
                  clear k83
                  clear k84
                  clear k85
                  generalize tm.getD 86 undef = u86 at *
                  refine Rg.nil_list ?_
                  obtain ⟨b3, hb3, hbs3⟩ : ∃ b3 : Bytes, Hid (b3 = b2 ++ be 8 m.snap.index.toNat ++ be 8 m.snap.term.toNat ++ oputBytes [] m.snap.state) ∧ Bs W u3 b3 := ⟨_, rfl, k3⟩
                  have hbl3 : b3.length ≤ 31400 := by rw [hb3.out]; have := hl.state; simp [be_length, oputBytes_length]; omega
                  replace hM := hM.ext hR
                  replace hx1 := hx1.trans' hR
                  clear k3 k78 k82 k86 hs hbs hR
                  obtain ⟨A3, c3, rfl, -, -, -⟩ := id hbs3
                  have c13 : W.cell? ⟨g, 13, none⟩ = some (.int .i64 m.cmd.kind) := (hM.cell 13).trans rfl
                  have c14 : W.cell? ⟨g, 14, none⟩ = some (.int .i64 m.cmd.client) := (hM.cell 14).trans rfl
                  have c15 : W.cell? ⟨g, 15, none⟩ = some (.int .u64 m.cmd.seq) := (hM.cell 15).trans rfl
                  have c16 : W.cell? ⟨g, 16, none⟩ = some (str m.cmd.name) := (hM.cell 16).trans rfl
                  have c17 : W.cell? ⟨g, 17, none⟩ = some (str m.cmd.url) := (hM.cell 17).trans rfl
                  have c18 : W.cell? ⟨g, 18, none⟩ = some (.int .u64 m.cmd.till) := (hM.cell 18).trans rfl
                  have hok : m.cmd.ok := ⟨hl.ck0, hl.ck1, hl.cc0, hl.cc1, HW.out.cmd.s0, HW.out.cmd.s1, by have := hl.name; omega, by have := hl.url; omega, HW.out.cmd.t0, HW.out.cmd.t1⟩
                  have hcl : (cput m.cmd).length ≤ 1500 := cput_len3 m.cmd hl.name hl.url
                  go_upto_region 19 with fail
                  go_wp2_with fail
                  refine (cput_b m.cmd hok (by have := hl.name; omega) (by have := hl.url; omega) W).mono ?_
                  rintro e W5 ⟨b4, A4, c4, hb4, rfl, hbs4, hx5⟩
                  go_wp2_with fail
                  refine (oPutB _ _ b3 b4 W5 (by rw [hb4.out]; omega) (hbs3.ext hx5) hbs4).mono ?_
                  rintro e W6 ⟨b5, A5, c5, hb5, rfl, hz5, hx6⟩
                  have hbl5 : b5.length ≤ 33000 := by rw [hb5.out, hb4.out]; simp [oputBytes_length]; omega
                  have hbs5 := hz5.bs
                  replace hM := (hM.ext hx5).ext hx6
                  replace hx1 := (hx1.trans' hx5).trans' hx6
                  clear c13 c14 c15 c16 c17 c18 hz5 hbs4 hbs3 hx5 hx6
                  have hwe : IntKind.u64.wrap m.an.err = m.an.err := by rw [IntKind.wrap_u64]; have := hl.e0; have := hl.e1; omega
                  go_upto_region 20 with fail
                  refine Rg.regionT Try.checked.mixed 103 12 (by kernel_rfl) [
                    (fun x_ _ => x_ = .slice A5 b5.length c5),
                    (fun x_ _ => x_ = .pointer (some ⟨g, 19, none⟩)),
                    (fun x_ _ => x_ = .pointer (some ⟨g, 19, none⟩)),
                    (fun x_ _ => x_ = .int .i64 m.an.err),
                    (fun x_ _ => x_ = .int .u64 m.an.err),
                    (fun v W => Bs W v (b5 ++ be 1 m.an.err.toNat)),
                    (fun x_ _ => x_ = .pointer (some ⟨g, 19, none⟩)),
                    (fun x_ _ => x_ = .pointer (some ⟨g, 20, none⟩)),
                    (fun x_ _ => x_ = str m.an.text),
                    (fun v W => Bs W v m.an.text),
                    (fun v W => Bs W v (b5 ++ be 1 m.an.err.toNat ++ oputBytes [] m.an.text)),
                    (fun v W => Bs W v (b5 ++ be 1 m.an.err.toNat ++ oputBytes [] m.an.text))] (fun W => Ext W6 W) Ext rfl rfl rfl
                    ?st ((Ext.rfl' W6).drew') ?ob ?en
                  case st => exact ⟨fun _ _ _ h _ => h, fun _ _ _ h _ => h, fun _ _ _ h _ => h, fun _ _ _ h _ => h, fun _ _ _ h _ => h, fun _ _ _ h hx => h.ext hx, fun _ _ _ h _ => h, fun _ _ _ h _ => h, fun _ _ _ h _ => h, fun _ _ _ h hx => h.ext hx, fun _ _ _ h hx => h.ext hx, fun _ _ _ h hx => h.ext hx, trivial⟩
                  case ob =>
                    refine ⟨Rg.at_run [3] rfl ?_, ?_⟩
                    · intro ρ W hR ⟨q3, _⟩
                      replace q3 : ρ 3 = .slice A5 b5.length c5 := q3
                      refine ⟨rfl, ?_⟩
                      exact Rg.run_ok (v := .slice A5 b5.length c5) (by simp [execOp, Rg.ev, go_sem, q3]) ⟨rfl, hR, Ext.rfl' _⟩
                    refine ⟨Rg.at_run [1] rfl ?_, ?_⟩
                    · intro ρ W hR ⟨q1, _⟩
                      replace q1 : ρ 1 = .pointer (some ⟨g, 0, none⟩) := q1
                      refine ⟨rfl, ?_⟩
                      exact Rg.run_ok (v := .pointer (some ⟨g, 19, none⟩)) (by simp [execOp, Rg.ev, go_sem, q1]) ⟨rfl, hR, Ext.rfl' _⟩
                    refine ⟨Rg.at_run [93] rfl ?_, ?_⟩
                    · intro ρ W hR ⟨q93, _⟩
                      replace q93 : ρ 93 = .pointer (some ⟨g, 19, none⟩) := q93
                      refine ⟨rfl, ?_⟩
                      exact Rg.run_ok (v := .pointer (some ⟨g, 19, none⟩)) (by simp [execOp, Rg.ev, go_sem, q93]) ⟨rfl, hR, Ext.rfl' _⟩
                    refine ⟨Rg.at_run [94] rfl ?_, ?_⟩
                    · intro ρ W hR ⟨q94, _⟩
                      replace q94 : ρ 94 = .pointer (some ⟨g, 19, none⟩) := q94
                      refine ⟨rfl, ?_⟩
                      have c19_ : W.cell? ⟨g, 19, none⟩ = some (.int .i64 m.an.err) := ((hM.ext hR).cell 19).trans rfl
                      exact Rg.run_ok (v := .int .i64 m.an.err) (by simp [execOp, Rg.ev, go_sem, q94, c19_]) ⟨rfl, hR, Ext.rfl' _⟩
                    refine ⟨Rg.at_run [95] rfl ?_, ?_⟩
                    · intro ρ W hR ⟨q95, _⟩
                      replace q95 : ρ 95 = .int .i64 m.an.err := q95
                      refine ⟨rfl, ?_⟩
                      exact Rg.run_ok (v := .int .u64 m.an.err) (by simp [execOp, Rg.ev, go_sem, q95, hwe]) ⟨rfl, hR, Ext.rfl' _⟩
                    refine ⟨Rg.at_run [92, 96] rfl ?_, ?_⟩
                    · intro ρ W hR ⟨q92, q96, _⟩
                      replace q92 : ρ 92 = .slice A5 b5.length c5 := q92
                      replace q96 : ρ 96 = .int .u64 m.an.err := q96
                      refine ⟨rfl, ?_⟩
                      refine Rg.run_enter (by simp [execOp, Rg.ev, go_sem, q92, q96]; exact ⟨⟨rfl, rfl⟩, rfl⟩) ?_
                      refine (oPut1 _ b5 m.an.err W ⟨by have := hl.e0; omega, by have := hl.e1; omega⟩ (by omega) (hbs5.ext hR)).mono ?_
                      rintro e w2 ⟨m, Am, cm, hm, rfl, hz, hxx⟩
                      have hm' := hm.out
                      subst hm'
                      exact ⟨_, rfl, hz.bs, hR.trans' hxx, hxx⟩
                    refine ⟨Rg.at_run [1] rfl ?_, ?_⟩
                    · intro ρ W hR ⟨q1, _⟩
                      replace q1 : ρ 1 = .pointer (some ⟨g, 0, none⟩) := q1
                      refine ⟨rfl, ?_⟩
                      exact Rg.run_ok (v := .pointer (some ⟨g, 19, none⟩)) (by simp [execOp, Rg.ev, go_sem, q1]) ⟨rfl, hR, Ext.rfl' _⟩
                    refine ⟨Rg.at_run [98] rfl ?_, ?_⟩
                    · intro ρ W hR ⟨q98, _⟩
                      replace q98 : ρ 98 = .pointer (some ⟨g, 19, none⟩) := q98
                      refine ⟨rfl, ?_⟩
                      exact Rg.run_ok (v := .pointer (some ⟨g, 20, none⟩)) (by simp [execOp, Rg.ev, go_sem, q98]) ⟨rfl, hR, Ext.rfl' _⟩
                    refine ⟨Rg.at_run [99] rfl ?_, ?_⟩
                    · intro ρ W hR ⟨q99, _⟩
                      replace q99 : ρ 99 = .pointer (some ⟨g, 20, none⟩) := q99
                      refine ⟨rfl, ?_⟩
                      have c20_ : W.cell? ⟨g, 20, none⟩ = some (str m.an.text) := ((hM.ext hR).cell 20).trans rfl
                      exact Rg.run_ok (v := str m.an.text) (by simp [execOp, Rg.ev, go_sem, q99, c20_]) ⟨rfl, hR, Ext.rfl' _⟩
                    refine ⟨Rg.at_run [100] rfl ?_, ?_⟩
                    · intro ρ W hR ⟨q100, _⟩
                      replace q100 : ρ 100 = str m.an.text := q100
                      refine ⟨rfl, ?_⟩
                      obtain ⟨Ac, cc, W2, hrun, hbs, hxx⟩ := conv_bytes W m.an.text (by have := hl.text; omega)
                      exact Rg.run_ok (v := .slice Ac m.an.text.length cc) (by simp only [execOp, Rg.ev, Sem.run_bind, Sem.run_pure, Result.andThen_ok, q100, hrun]) ⟨hbs, hR.trans' hxx, hxx⟩
                    refine ⟨Rg.at_run [97, 101] rfl ?_, ?_⟩
                    · intro ρ W hR ⟨q97, q101, _⟩
                      replace q97 : (fun v W => Bs W v (b5 ++ be 1 m.an.err.toNat)) (ρ 97) W := q97
                      replace q101 : (fun v W => Bs W v m.an.text) (ρ 101) W := q101
                      refine ⟨rfl, ?_⟩
                      refine Rg.run_enter (by simp [execOp, Rg.ev, go_sem]; exact ⟨⟨rfl, rfl⟩, rfl⟩) ?_
                      refine (oPutB _ _ (b5 ++ be 1 m.an.err.toNat) m.an.text W (by have := hl.text; simp [be_length]; omega) q97 q101).mono ?_
                      rintro e w2 ⟨m, Am, cm, hm, rfl, hz, hxx⟩
                      have hm' := hm.out
                      subst hm'
                      exact ⟨_, rfl, hz.bs, hR.trans' hxx, hxx⟩
                    refine ⟨Rg.at_run [102] rfl ?_, ?_⟩
                    · intro ρ W hR ⟨q102, _⟩
                      replace q102 : (fun v W => Bs W v (b5 ++ be 1 m.an.err.toNat ++ oputBytes [] m.an.text)) (ρ 102) W := q102
                      refine ⟨rfl, ?_⟩
                      exact Rg.run_ok (by simp [execOp, Rg.ev, go_sem] <;> rfl) ⟨q102, hR, Ext.rfl' _⟩
                    trivial
                  case en =>
                    intro tm W hR hsz hk
                    rw [Rg.fin_eq (ds := [92, 93, 94, 95, 96, 97, 98, 99, 100, 101, 102, 2]) rfl rfl rfl hsz hk]
                    have k2 : (fun v W => Bs W v (b5 ++ be 1 m.an.err.toNat ++ oputBytes [] m.an.text)) (tm.getD 2 undef) W := hk 2
                    have k92 : tm.getD 92 undef = .slice A5 b5.length c5 := hk 92
                    have k93 : tm.getD 93 undef = .pointer (some ⟨g, 19, none⟩) := hk 93
                    have k94 : tm.getD 94 undef = .pointer (some ⟨g, 19, none⟩) := hk 94
                    have k95 : tm.getD 95 undef = .int .i64 m.an.err := hk 95
                    have k96 : tm.getD 96 undef = .int .u64 m.an.err := hk 96
                    have k97 : (fun v W => Bs W v (b5 ++ be 1 m.an.err.toNat)) (tm.getD 97 undef) W := hk 97
                    have k98 : tm.getD 98 undef = .pointer (some ⟨g, 19, none⟩) := hk 98
                    have k99 : tm.getD 99 undef = .pointer (some ⟨g, 20, none⟩) := hk 99
                    have k100 : tm.getD 100 undef = str m.an.text := hk 100
                    have k101 : (fun v W => Bs W v m.an.text) (tm.getD 101 undef) W := hk 101
                    have k102 : (fun v W => Bs W v (b5 ++ be 1 m.an.err.toNat ++ oputBytes [] m.an.text)) (tm.getD 102 undef) W := hk 102
                    clear hk hsz
                    simp only [Rg.putAll, List.setIfInBounds_toArray, List.set_cons_zero, List.set_cons_succ, k92, k93, k94, k95, k96, k98, k99, k100]
                    generalize tm.getD 2 undef = u2 at *
                    clear k92
                    clear k93
                    clear k94
                    clear k95
                    clear k96
                    generalize tm.getD 97 undef = u97 at *
                    clear k98
                    clear k99
                    clear k100
                    generalize tm.getD 101 undef = u101 at *
                    generalize tm.getD 102 undef = u102 at *
                    refine Rg.nil_list ?_
                    replace hx1 := hx1.trans' hR
                    have HZ : Hid (b5 ++ be 1 m.an.err.toNat ++ oputBytes [] m.an.text = msgC.enc m) := hide (by
                      rw [msg_enc, hb5.out, hb4.out, hb3.out, hb.out, hb1.out, HBB.out, ← HFL.out]
                      simp [pre2, pre8])
                    rw [HZ.out] at k2
                    obtain ⟨Az, cz, rfl, -, -, -⟩ := id k2
                    go_wp2_with fail
                    go_ret
                    exact ⟨_, Az, cz, rfl, rfl, k2, hx1⟩
end Go.Proofs.Ytlblgopfdadalaa
