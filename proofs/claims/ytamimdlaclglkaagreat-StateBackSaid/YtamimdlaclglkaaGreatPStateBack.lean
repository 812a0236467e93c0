import Derived.Test.YtamimdlaclglkaaGreatPk17
import Derived.Test.YtamimdlaclglkaaGreatPk32
import Derived.Test.YtamimdlaclglkaaGreatPk46
import Derived.Test.YtamimdlaclglkaaGreatPk49
import Derived.Test.YtamimdlaclglkaaGreatPk50
import Derived.Test.YtamimdlaclglkaaGreatPk51
import Derived.Test.YtamimdlaclglkaaGreatPk25
import Derived.Test.YtamimdlaclglkaaGreatPk45
import Derived.Test.YtamimdlaclglkaaGreatPk2
/- OctetCut: what the law itself does. -/
namespace Go.Proofs.YtamimdlaclglkaaGreat
set_option linter.unusedVariables false
set_option linter.unusedSimpArgs false
set_option linter.unnecessarySimpa false
set_option maxRecDepth 100000
open Go.RowKit
set_option maxHeartbeats 400000 in
theorem place_b (k n : Int) (w : World) (hk : -9223372036854775808 ≤ k ∧ k ≤ 9223372036854775807) (hn : 1 ≤ n ∧ n ≤ 9223372036854775807) :
    Calls Tryz.prog 22 #[.int .i64 k, .int .i64 n] w fun e w' => ∃ p : Nat, (p : Int) < n ∧ e = .returned (.int .i64 p) ∧ w = w' := by
  have hn1 : ¬ n < 1 := by omega
  have h1 : k.tmod n < n := Int.tmod_lt_of_pos k (by omega)
  have h2 : -n < k.tmod n := Int.lt_tmod_of_pos k (by omega)
  obtain ⟨q, hq⟩ : ∃ q, k.tmod n = q := ⟨_, rfl⟩
  rw [hq] at h1 h2
  by_cases hneg : q < 0
  · go_enter Tryz.func22, Tryz.ntmps22
    go_wp2
    go_ret
    exact ⟨(q + n).toNat, by omega, by rw [Int.toNat_of_nonneg (by omega)]; rfl, rfl⟩
  · go_enter Tryz.func22, Tryz.ntmps22
    go_wp2
    go_ret
    exact ⟨q.toNat, by omega, by rw [Int.toNat_of_nonneg (by omega)]; rfl, rfl⟩

end Go.Proofs.YtamimdlaclglkaaGreat

/- A state is read off its bytes; of fewer bytes none is, of more none. -/
namespace Go.Proofs.YtamimdlaclglkaaGreat
set_option linter.unusedVariables false
set_option linter.unusedSimpArgs false
set_option linter.unnecessarySimpa false
set_option maxRecDepth 100000
open Go.RowKit
/-- the bytes B are read as a, and none of their true fronts is -/
structure RdOk {α : Type} (f : Rdr → α × Rdr) (B : Bytes) (a : α) : Prop where
  full : ∀ rest : Bytes, f (B ++ rest, 0) = (a, (rest, 0))
  cut : ∀ p : Nat, p < B.length → (f (B.take p, 0)).2.2 = 3
/-- an error stays -/
def KeepE {α : Type} (f : Rdr → α × Rdr) : Prop := ∀ s : Rdr, s.2 ≠ 0 → (f s).2 = s
def rbind {α β : Type} (f : Rdr → α × Rdr) (g : α → Rdr → β × Rdr) (s : Rdr) : β × Rdr := g (f s).1 (f s).2
theorem KeepE.bind {α β : Type} {f : Rdr → α × Rdr} {g : α → Rdr → β × Rdr} (h : KeepE f) (hg : ∀ x, KeepE (g x)) : KeepE (rbind f g) := fun s hs => by
  unfold rbind
  rw [hg _ _ (by rw [h s hs]; exact hs), h s hs]
theorem RdOk.bind {α β : Type} {f : Rdr → α × Rdr} {g : α → Rdr → β × Rdr} {B C : Bytes} {a : α} {b : β} (h : RdOk f B a) (hg : RdOk (g a) C b) (hk : ∀ x, KeepE (g x)) : RdOk (rbind f g) (B ++ C) b := by
  refine ⟨fun rest => ?_, fun p hp => ?_⟩
  · unfold rbind
    rw [List.append_assoc, h.full]
    exact hg.full rest
  · unfold rbind
    rcases Nat.lt_or_ge p B.length with hlt | hge
    · rw [List.take_append_of_le_length (Nat.le_of_lt hlt)]
      have h3 := h.cut p hlt
      rw [hk _ _ (by rw [h3]; decide)]
      exact h3
    · rw [show (B ++ C).take p = B ++ C.take (p - B.length) by rw [List.take_append, List.take_of_length_le hge], h.full]
      refine hg.cut _ ?_
      rw [List.length_append] at hp
      omega
theorem RdOk.pure {α : Type} (x : α) : RdOk (fun s => (x, s)) [] x := ⟨fun _ => rfl, fun p hp => by simp at hp⟩
theorem KeepE.num (n : Nat) : KeepE (pnum n) := fun s hs => by unfold pnum; rw [if_neg hs]
theorem KeepE.text : KeepE ptext := fun s hs => by unfold ptext; rw [if_neg hs]
theorem KeepE.form {α : Type} (x : α) (c : Bool) : KeepE (fun s => (x, pform c s)) := fun s hs => by show pform c s = s; unfold pform; rw [if_neg (fun h => hs h.1)]
theorem RdOk.num (n v : Nat) (h : v < 256 ^ n) : RdOk (pnum n) (be n v) (v : Int) := by
  refine ⟨fun rest => ?_, fun p hp => ?_⟩
  · unfold pnum
    rw [if_pos rfl, if_neg (by simp [be_length])]
    simp only
    rw [List.take_left' (be_length n v), List.drop_left' (be_length n v), val_be, Nat.mod_eq_of_lt h]
  · unfold pnum
    rw [be_length] at hp
    rw [if_pos rfl, if_pos (by simp [be_length]; omega)]
theorem RdOk.text (t : Bytes) (h : t.length < 4294967296) : RdOk ptext (txB t) t := by
  have e : txB t = oputBytes [] t := by simp [oputBytes, txB]
  refine ⟨fun rest => ?_, fun p hp => ?_⟩
  · unfold ptext
    rw [if_pos rfl]
    simp only
    rw [e, otakeBytes_put _ _ h]
    simp only
    rw [← e, show ((t.length + 4 : Nat) : Int).toNat = (txB t).length by rw [txB_len]; omega, List.drop_left]
  · unfold ptext
    rw [if_pos rfl]
    simp only
    rw [e, otakeBytes_cut _ _ h (by rw [txB_len] at hp; omega)]
theorem RdOk.form {α : Type} (x : α) {c : Bool} (hc : c = false) : RdOk (fun s => (x, pform c s)) [] x := ⟨fun rest => by subst hc; simp [pform], fun p hp => by simp at hp⟩
theorem KeepE.times {α : Type} (f : Rdr → α × Rdr) : ∀ n, KeepE (ptimes f n)
  | 0 => fun _ _ => rfl
  | n + 1 => fun s hs => by unfold ptimes; rw [if_neg hs]
theorem RdOk.times {α : Type} {f : Rdr → α × Rdr} {B : α → Bytes} (hk : KeepE f) : ∀ l : List α, (∀ a ∈ l, RdOk f (B a) a) → RdOk (ptimes f l.length) ((l.map B).flatten) l
  | [], _ => ⟨fun _ => rfl, fun p hp => by simp at hp⟩
  | a :: l, h => by
    have h1 := h a List.mem_cons_self
    have h2 := RdOk.times hk l fun x hx => h x (List.mem_cons_of_mem _ hx)
    have e : RdOk (rbind f fun x => rbind (ptimes f l.length) fun y s => (x :: y, s)) (B a ++ ((l.map B).flatten ++ [])) (a :: l) :=
      h1.bind (h2.bind (RdOk.pure _) (fun _ _ _ => rfl)) (fun x => (KeepE.times f _).bind (fun _ _ _ => rfl))
    have e2 : ∀ s : Rdr, s.2 = 0 → ptimes f (a :: l).length s = (rbind f fun x => rbind (ptimes f l.length) fun y s => (x :: y, s)) s := fun s hs => by
      show ptimes f (l.length + 1) s = _
      unfold ptimes
      rw [if_pos hs]
      rfl
    simp only [List.append_nil] at e
    exact ⟨fun rest => by rw [List.map_cons, List.flatten_cons, e2 _ rfl]; exact e.full rest, fun p hp => by rw [List.map_cons, List.flatten_cons] at hp ⊢; rw [e2 _ rfl]; exact e.cut p hp⟩
/-- what lists a state may have so that its bytes tell them -/
structure BkOk (s : St) : Prop where
  now : 0 ≤ s.now ∧ s.now ≤ 18446744073709551615
  count : 0 ≤ s.count ∧ s.count ≤ 18446744073709551615
  ll : s.links.length ≤ 65535
  sl : s.sess.length ≤ 65535
  link : ∀ l ∈ s.links, l.name.length < 4294967296 ∧ l.url.length < 4294967296 ∧ 0 ≤ l.till ∧ l.till ≤ 18446744073709551615
  sess : ∀ x ∈ s.sess, (0 ≤ x.client ∧ x.client ≤ 255) ∧ (0 ≤ x.high ∧ x.high ≤ 18446744073709551615) ∧ x.done.length ≤ 255 ∧ ∀ d ∈ x.done, (0 ≤ d.seq ∧ d.seq ≤ 18446744073709551615) ∧ (0 ≤ d.an.err ∧ d.an.err ≤ 16) ∧ d.an.text.length < 4294967296
theorem RdOk.numI (n : Nat) (v : Int) (h0 : 0 ≤ v) (h : v.toNat < 256 ^ n) : RdOk (pnum n) (be n v.toNat) v := by
  have := RdOk.num n v.toNat h
  rwa [Int.toNat_of_nonneg h0] at this
theorem RdOk.link {l : Ln} (h : l.name.length < 4294967296 ∧ l.url.length < 4294967296 ∧ 0 ≤ l.till ∧ l.till ≤ 18446744073709551615) : RdOk plink (lnB l) l := by
  obtain ⟨a1, a2, a3, a4⟩ := h
  obtain ⟨nm, ur, tl, md⟩ := l
  simp only at a1 a2 a3 a4
  have hd : RdOk (pnum 1) (be 1 (if md then 1 else 0)) ((if md then 1 else 0 : Nat) : Int) := RdOk.num 1 _ (by cases md <;> decide)
  have := (RdOk.text nm a1).bind (g := fun n => rbind ptext fun u => rbind (pnum 8) fun t => rbind (pnum 1) fun d s => ((⟨n, u, t, decide (d = 1)⟩ : Ln), pform (decide (1 < d)) s))
    ((RdOk.text ur a2).bind ((RdOk.numI 8 tl a3 (by have e : (256 : Nat) ^ 8 = 18446744073709551616 := rfl; omega)).bind (hd.bind (b := (⟨nm, ur, tl, md⟩ : Ln)) (C := []) (by
      have e1 : decide (((if md then 1 else 0 : Nat) : Int) = 1) = md := by cases md <;> rfl
      have e2 : decide ((1 : Int) < ((if md then 1 else 0 : Nat) : Int)) = false := by cases md <;> rfl
      rw [e1]
      exact RdOk.form _ e2) (fun d => KeepE.form _ _)) (fun t => (KeepE.num 1).bind fun d => KeepE.form _ _)) (fun u => (KeepE.num 8).bind fun t => (KeepE.num 1).bind fun d => KeepE.form _ _)) (fun n => KeepE.text.bind fun u => (KeepE.num 8).bind fun t => (KeepE.num 1).bind fun d => KeepE.form _ _)
  have eB : lnB ⟨nm, ur, tl, md⟩ = txB nm ++ (txB ur ++ (be 8 tl.toNat ++ (be 1 (if md then 1 else 0) ++ []))) := by simp [lnB]
  rw [eB]
  exact this
theorem KeepE.link : KeepE plink := by
  have : KeepE (rbind ptext fun n => rbind ptext fun u => rbind (pnum 8) fun t => rbind (pnum 1) fun d s => ((⟨n, u, t, decide (d = 1)⟩ : Ln), pform (decide (1 < d)) s)) :=
    KeepE.text.bind fun n => KeepE.text.bind fun u => (KeepE.num 8).bind fun t => (KeepE.num 1).bind fun d => KeepE.form _ _
  exact this
theorem RdOk.done {d : Dn} (h1 : 0 ≤ d.seq ∧ d.seq ≤ 18446744073709551615) (h2 : 0 ≤ d.an.err ∧ d.an.err ≤ 16) (h3 : d.an.text.length < 4294967296) : RdOk pdone (dnB d) d := by
  obtain ⟨q, e, t⟩ := d
  simp only at h1 h2 h3
  have hf : RdOk (fun s : Rdr => (e, pform (decide (16 < e)) s)) [] e := RdOk.form e (by simp; omega)
  have := (RdOk.numI 8 q h1.1 (by have e : (256 : Nat) ^ 8 = 18446744073709551616 := rfl; omega)).bind (g := fun q => rbind (pnum 1) fun e => rbind (fun s => (e, pform (decide (16 < e)) s)) fun e => rbind ptext fun t s => ((⟨q, ⟨e, t⟩⟩ : Dn), s))
    ((RdOk.numI 1 e h2.1 (by have e : (256 : Nat) ^ 1 = 256 := rfl; omega)).bind (hf.bind ((RdOk.text t h3).bind (RdOk.pure (⟨q, ⟨e, t⟩⟩ : Dn)) (fun _ _ _ => rfl)) (fun e => KeepE.text.bind fun _ _ _ => rfl)) (fun e => (KeepE.form _ _).bind fun e => KeepE.text.bind fun _ _ _ => rfl))
    (fun q => (KeepE.num 1).bind fun e => (KeepE.form _ _).bind fun e => KeepE.text.bind fun _ _ _ => rfl)
  have eB : dnB ⟨q, ⟨e, t⟩⟩ = be 8 q.toNat ++ (be 1 e.toNat ++ ([] ++ (txB t ++ []))) := by simp [dnB]
  rw [eB]
  exact this
theorem KeepE.done : KeepE pdone := by
  have : KeepE (rbind (pnum 8) fun q => rbind (pnum 1) fun e => rbind (fun s => (e, pform (decide (16 < e)) s)) fun e => rbind ptext fun t s => ((⟨q, ⟨e, t⟩⟩ : Dn), s)) :=
    (KeepE.num 8).bind fun q => (KeepE.num 1).bind fun e => (KeepE.form _ _).bind fun e => KeepE.text.bind fun _ _ _ => rfl
  exact this
theorem KeepE.sess : KeepE psess := by
  have : KeepE (rbind (pnum 1) fun a => rbind (pnum 8) fun b => rbind (pnum 1) fun n => rbind (ptimes pdone n.toNat) fun l s => ((⟨a, b, l⟩ : Se), s)) :=
    (KeepE.num 1).bind fun a => (KeepE.num 8).bind fun b => (KeepE.num 1).bind fun n => (KeepE.times _ _).bind fun _ _ _ => rfl
  exact this
theorem RdOk.sess {x : Se} (h : (0 ≤ x.client ∧ x.client ≤ 255) ∧ (0 ≤ x.high ∧ x.high ≤ 18446744073709551615) ∧ x.done.length ≤ 255 ∧ ∀ d ∈ x.done, (0 ≤ d.seq ∧ d.seq ≤ 18446744073709551615) ∧ (0 ≤ d.an.err ∧ d.an.err ≤ 16) ∧ d.an.text.length < 4294967296) : RdOk psess (seB x) x := by
  obtain ⟨a, b, l⟩ := x
  obtain ⟨h1, h2, h3, h4⟩ := h
  simp only at h1 h2 h3 h4
  have e1 : (256 : Nat) ^ 1 = 256 := rfl
  have e8 : (256 : Nat) ^ 8 = 18446744073709551616 := rfl
  have hl : RdOk (ptimes pdone ((l.length : Nat) : Int).toNat) ((l.map dnB).flatten) l := by
    rw [Int.toNat_natCast]
    exact RdOk.times KeepE.done l fun d hd => RdOk.done (h4 d hd).1 (h4 d hd).2.1 (h4 d hd).2.2
  have := (RdOk.numI 1 a h1.1 (by omega)).bind (g := fun a => rbind (pnum 8) fun b => rbind (pnum 1) fun n => rbind (ptimes pdone n.toNat) fun l s => ((⟨a, b, l⟩ : Se), s))
    ((RdOk.numI 8 b h2.1 (by omega)).bind ((RdOk.num 1 l.length (by omega)).bind (hl.bind (RdOk.pure (⟨a, b, l⟩ : Se)) (fun _ _ _ => rfl)) (fun n => (KeepE.times _ _).bind fun _ _ _ => rfl)) (fun b => (KeepE.num 1).bind fun n => (KeepE.times _ _).bind fun _ _ _ => rfl))
    (fun a => (KeepE.num 8).bind fun b => (KeepE.num 1).bind fun n => (KeepE.times _ _).bind fun _ _ _ => rfl)
  have eB : seB ⟨a, b, l⟩ = be 1 a.toNat ++ (be 8 b.toNat ++ (be 1 l.length ++ ((l.map dnB).flatten ++ []))) := by simp [seB, seH]
  rw [eB]
  exact this
def pstR : Rdr → St × Rdr := rbind (pnum 8) fun a => rbind (pnum 8) fun c => rbind (pnum 2) fun n => rbind (ptimes plink n.toNat) fun l => rbind (pnum 2) fun m => rbind (ptimes psess m.toNat) fun x s => ((⟨a, c, l, x⟩ : St), s)
theorem RdOk.state {s : St} (h : BkOk s) : RdOk pstR (stB s) s := by
  obtain ⟨a, c, l, x⟩ := s
  obtain ⟨h1, h2, h3, h4, h5, h6⟩ := h
  simp only at h1 h2 h3 h4 h5 h6
  have e2 : (256 : Nat) ^ 2 = 65536 := rfl
  have e8 : (256 : Nat) ^ 8 = 18446744073709551616 := rfl
  have hl : RdOk (ptimes plink ((l.length : Nat) : Int).toNat) ((l.map lnB).flatten) l := by
    rw [Int.toNat_natCast]
    exact RdOk.times KeepE.link l fun d hd => RdOk.link (h5 d hd)
  have hs : RdOk (ptimes psess ((x.length : Nat) : Int).toNat) ((x.map seB).flatten) x := by
    rw [Int.toNat_natCast]
    exact RdOk.times KeepE.sess x fun d hd => RdOk.sess (h6 d hd)
  have k5 : ∀ (a c : Int) (l : List Ln) (m : Int), KeepE (rbind (ptimes psess m.toNat) fun x s => ((⟨a, c, l, x⟩ : St), s)) := fun a c l m => (KeepE.times _ _).bind fun _ _ _ => rfl
  have k4 : ∀ (a c : Int) (l : List Ln), KeepE (rbind (pnum 2) fun m => rbind (ptimes psess m.toNat) fun x s => ((⟨a, c, l, x⟩ : St), s)) := fun a c l => (KeepE.num 2).bind fun m => k5 a c l m
  have k3 : ∀ (a c n : Int), KeepE (rbind (ptimes plink n.toNat) fun l => rbind (pnum 2) fun m => rbind (ptimes psess m.toNat) fun x s => ((⟨a, c, l, x⟩ : St), s)) := fun a c n => (KeepE.times _ _).bind fun l => k4 a c l
  have k2 : ∀ (a c : Int), KeepE (rbind (pnum 2) fun n => rbind (ptimes plink n.toNat) fun l => rbind (pnum 2) fun m => rbind (ptimes psess m.toNat) fun x s => ((⟨a, c, l, x⟩ : St), s)) := fun a c => (KeepE.num 2).bind fun n => k3 a c n
  have k1 : ∀ (a : Int), KeepE (rbind (pnum 8) fun c => rbind (pnum 2) fun n => rbind (ptimes plink n.toNat) fun l => rbind (pnum 2) fun m => rbind (ptimes psess m.toNat) fun x s => ((⟨a, c, l, x⟩ : St), s)) := fun a => (KeepE.num 8).bind fun c => k2 a c
  have := (RdOk.numI 8 a h1.1 (by omega)).bind ((RdOk.numI 8 c h2.1 (by omega)).bind ((RdOk.num 2 l.length (by omega)).bind (hl.bind ((RdOk.num 2 x.length (by omega)).bind (hs.bind (RdOk.pure (⟨a, c, l, x⟩ : St)) (fun _ _ _ => rfl)) (fun m => k5 a c l m)) (fun l => k4 a c l)) (fun n => k3 a c n)) (fun c => k2 a c)) k1
  have eB : stB ⟨a, c, l, x⟩ = be 8 a.toNat ++ (be 8 c.toNat ++ (be 2 l.length ++ ((l.map lnB).flatten ++ (be 2 x.length ++ ((x.map seB).flatten ++ []))))) := by simp [stB, stH]
  rw [eB]
  exact this
theorem pstate_eq (b : Bytes) : pstate b = pstR (b, 0) := rfl
theorem ptake_put {s : St} (h : BkOk s) (hs : standsB s = true) : ptake (stB s) = (s, 0) := by
  have := (RdOk.state h).full []
  rw [List.append_nil] at this
  unfold ptake
  rw [pstate_eq, this]
  simp [hs]
theorem ptake_cut {s : St} (h : BkOk s) {p : Nat} (hp : p < (stB s).length) : (ptake ((stB s).take p)).2 = 3 := by
  have := (RdOk.state h).cut p hp
  unfold ptake
  rw [pstate_eq, if_pos (by rw [this]; decide), this]
theorem ptake_more {s : St} (h : BkOk s) (c : UInt8) : (ptake (stB s ++ [c])).2 = 2 := by
  have := (RdOk.state h).full [c]
  unfold ptake
  rw [pstate_eq, this]
  simp
end Go.Proofs.YtamimdlaclglkaaGreat

/- The states that commands leave have bytes that tell them. -/
namespace Go.Proofs.YtamimdlaclglkaaGreat
set_option linter.unusedVariables false
set_option linter.unusedSimpArgs false
set_option linter.unnecessarySimpa false
set_option maxRecDepth 100000
open Go.RowKit
theorem SInv.bk {s : St} (h : SInv s) : BkOk s := by
  have hl := h.links
  have a1 := hl.now0; have a2 := hl.now1; have a3 := hl.count0; have a4 := hl.count1; have a5 := hl.len; have a6 := h.len
  refine ⟨⟨a1, by omega⟩, ⟨a3, by omega⟩, by omega, by omega, fun l hm => ?_, fun x hm => ?_⟩
  · have b1 := hl.name_len hm; have b2 := hl.urls l hm; have b3 := hl.tills l hm
    exact ⟨Nat.lt_of_le_of_lt b1 (by decide), by omega, b3.1, by omega⟩
  · have c1 := h.win x hm; have c2 := h.done x hm
    refine ⟨⟨c1.2.1, by omega⟩, ⟨c1.2.2.2.1, by omega⟩, by omega, fun d hd => ?_⟩
    have d1 := c1.1.2 d hd; have d2 := h.texts x hm d hd
    exact ⟨⟨by omega, by omega⟩, d2.2, by omega⟩
theorem risesB_of {α : Type} {lt : α → α → Bool} : ∀ {l : List α}, l.Pairwise (fun a b => lt a b = true) → risesB lt l = true
  | [], _ => rfl
  | [_], _ => rfl
  | a :: b :: l, h => by
    have h1 := List.pairwise_cons.1 h
    show (lt a b && risesB lt (b :: l)) = true
    rw [h1.1 b List.mem_cons_self, risesB_of h1.2]
    rfl
theorem SInv.stands {s : St} (h : SInv s) : standsB s = true := by
  unfold standsB
  rw [risesB_of h.links.rise, risesB_of (h.rise.imp fun h => by simpa using h)]
  simp only [Bool.true_and, List.all_eq_true]
  intro x hx
  exact risesB_of ((h.done x hx).1.imp fun h => by simpa using h)
theorem bflat_max {α : Type} (f : α → Bytes) (n : Nat) : ∀ (l : List α), (∀ a ∈ l, (f a).length ≤ n) → ((l.map f).flatten).length ≤ l.length * n
  | [], _ => by simp
  | a :: l, h => by
    have h1 := h a List.mem_cons_self
    have h2 := bflat_max f n l fun x hx => h x (List.mem_cons_of_mem _ hx)
    rw [List.map_cons, List.flatten_cons, List.length_append, List.length_cons, Nat.add_mul]
    omega
theorem SInv.bytes {s : St} (h : SInv s) : (stB s).length ≤ 100000000 := by
  have hl := h.links
  have a5 := hl.len; have a6 := h.len
  have e1 := bflat_max lnB 1000 s.links fun l hm => by
    have b1 := hl.name_len hm; have b2 := hl.urls l hm
    have : l.name.length ≤ 100 := Nat.le_trans b1 (by decide)
    rw [lnB_len]; omega
  have e2 := bflat_max seB 5000000 s.sess fun x hm => by
    have c2 := h.done x hm
    have e3 := bflat_max dnB 1000100 x.done fun d hd => by
      have d2 := h.texts x hm d hd
      rw [dnB_len]; omega
    have : x.done.length * 1000100 ≤ 4 * 1000100 := Nat.mul_le_mul_right _ c2.2
    rw [seB_len]; omega
  rw [stB_len]
  have : s.links.length * 1000 ≤ 40 * 1000 := Nat.mul_le_mul_right _ a5
  have : s.sess.length * 5000000 ≤ 4 * 5000000 := Nat.mul_le_mul_right _ a6
  omega
theorem SInv.put {s : St} (h : SInv s) : PutOk s := ⟨by have := h.bytes; omega, fun x hx => (h.win x hx).2.1, fun x hx d hd => (h.texts x hx d hd).2.1⟩
theorem AskC.cmok {c : Cm} (h : AskC c) : CmOk c := ⟨by have := h.url; omega, by have := h.name; omega⟩
end Go.Proofs.YtamimdlaclglkaaGreat

/- StateBack. -/
namespace Go.Proofs.YtamimdlaclglkaaGreat
set_option linter.unusedVariables false
set_option linter.unusedSimpArgs false
set_option linter.unnecessarySimpa false
set_option maxRecDepth 100000
open Go.RowKit
set_option maxHeartbeats 12800000 in
theorem stateBack_walk (x : Value) (b : Bytes) (cut : Int) (y : Value) (mo : Bytes) (w : World) (hx : Bs w x b) (hcut : -9223372036854775808 ≤ cut ∧ cut ≤ 9223372036854775807) (hy : Bs w y mo) :
    Calls Tryz.prog 6 #[x, .int .i64 cut, y] w fun e w' => e = .returned (.bool true) ∧ Ext w w' := by
  obtain ⟨Ax, cx, rfl, -, -, -⟩ := id hx
  obtain ⟨Ay, cy, rfl, -, -, -⟩ := id hy
  have hxr := Ext.rfl' w
  go_enter Tryz.func6, Tryz.ntmps6
  go_wp2_with fail
  refine (begun20_b w).mono ?_
  rintro e w1 ⟨rfl, hx1⟩
  replace hx := hx.ext hx1
  replace hy := hy.ext hx1
  replace hxr := hxr.trans' hx1
  by_cases h1 : (100 : Int) < b.length
  · go_wp2_with fail
    go_ret
    exact ⟨rfl, hxr⟩
  by_cases h2 : (40 : Int) < mo.length
  · go_wp2_with fail
    go_ret
    exact ⟨rfl, hxr⟩
  have HB := hide h1
  have HM := hide h2
  go_wp2_with fail
  refine (asked_b _ b 30 _ hx (by have := HB.out; omega) (by omega)).mono ?_
  rintro e w2 ⟨l, A, c, hpc, hlen, rfl, hown, hx2⟩
  replace hx := hx.ext hx2
  replace hy := hy.ext hx2
  replace hxr := hxr.trans' hx2
  have HPC := hide hpc
  clear hpc h1 h2
  go_wp2_with fail
  refine (sall_b noneAt z0S _ _ l w2 (fun _ h => h.elim) (z0_rep w2 _) sinv0 hown.sl (fun c hc => (HPC.out c hc).cmok) (by omega)).mono ?_
  rintro e w3 ⟨s, an, A1, c1, B1, d1, A2, c2, h1, rfl, hrS, -, hx3⟩
  have hi : SInv s := by
    have h := SInv.all l sinv0 (fun c hc => ⟨(HPC.out c hc).wide, (HPC.out c hc).cmok⟩)
    rw [← h1.out] at h
    exact h
  clear h1 hown HPC
  replace hx := hx.ext hx3
  replace hy := hy.ext hx3
  replace hxr := hxr.trans' hx3
  obtain ⟨g7, hg7⟩ : ∃ g_, w3.heap.size = g_ := ⟨_, rfl⟩
  have hS := Blk.new w3 28 #[.int .u64 s.now, .int .u64 s.count, .slice A1 s.links.length c1, .slice B1 s.sess.length d1]
  rw [hg7] at hS
  have hz := (Ext.rfl' w3).alloc' (.cells #[.int .u64 s.now, .int .u64 s.count, .slice A1 s.links.length c1, .slice B1 s.sess.length d1] 28)
  replace hx := hx.ext hz
  replace hy := hy.ext hz
  replace hrS := stE.ext hrS hz
  replace hxr := hxr.trans' hz
  go_upto_region 6 with fail
  try rw [hg7]
  generalize (w3.alloc (.cells #[.int .u64 s.now, .int .u64 s.count, .slice A1 s.links.length c1, .slice B1 s.sess.length d1] 28)) = w4 at *
  have s0 := (hS.cell 0).trans rfl
  have s1 := (hS.cell 1).trans rfl
  have s2 := (hS.cell 2).trans rfl
  have s3 := (hS.cell 3).trans rfl
  go_wp2_with fail
  refine (stput_b s _ w4 hrS hi.put (by have := hi.links.len; omega) (by have := hi.len; omega) (fun x hx => by have := (hi.done x hx).2; omega)).mono ?_
  rintro e w5 ⟨m, Am, cm, hm, rfl, hnm, hx5⟩
  clear s0 s1 s2 s3
  have hbm := hnm.bs
  replace hx := hx.ext hx5
  replace hy := hy.ext hx5
  replace hS := hS.ext hx5
  replace hrS := stE.ext hrS hx5
  replace hxr := hxr.trans' hx5
  have hml := hi.bytes
  rw [← hm.out] at hml
  have HTK : Hid (ptake m = (s, 0)) := hide (by rw [hm.out]; exact ptake_put hi.bk hi.stands)
  have hm20 : 20 ≤ m.length := by rw [hm.out, stB_len]; omega
  go_wp2_with fail
  refine (sttake_b _ m noneAt w5 (by omega) hbm (fun _ h => h.elim)).mono ?_
  rintro e w6 ⟨t, k, A3, c3, B3, d3, h1, rfl, hrT, hx6⟩
  rw [HTK.out] at h1
  obtain ⟨ht_, hk_⟩ := Prod.mk.inj h1.out
  replace ht_ := ht_.symm
  subst ht_
  subst hk_
  clear h1 HTK
  replace hx := hx.ext hx6
  replace hy := hy.ext hx6
  replace hS := hS.ext hx6
  replace hbm := hbm.ext hx6
  replace hrS := stE.ext hrS hx6
  replace hxr := hxr.trans' hx6
  obtain ⟨g10, hg10⟩ : ∃ g_, w6.heap.size = g_ := ⟨_, rfl⟩
  have hT := Blk.new w6 28 #[.int .u64 s.now, .int .u64 s.count, .slice A3 s.links.length c3, .slice B3 s.sess.length d3]
  rw [hg10] at hT
  have hz := (Ext.rfl' w6).alloc' (.cells #[.int .u64 s.now, .int .u64 s.count, .slice A3 s.links.length c3, .slice B3 s.sess.length d3] 28)
  replace hx := hx.ext hz
  replace hy := hy.ext hz
  replace hS := hS.ext hz
  replace hbm := hbm.ext hz
  replace hrS := stE.ext hrS hz
  replace hrT := stE.ext hrT hz
  replace hxr := hxr.trans' hz
  go_upto_region 8 with fail
  try rw [hg10]
  generalize (w6.alloc (.cells #[.int .u64 s.now, .int .u64 s.count, .slice A3 s.links.length c3, .slice B3 s.sess.length d3] 28)) = w7 at *
  go_wp2_with fail
  refine (place_b cut m.length w7 hcut ⟨by omega, by omega⟩).mono ?_
  rintro e _ ⟨p, hp, rfl, rfl⟩
  have hcm := hbm.front (k := p) (by omega)
  have hpl : p < m.length := by omega
  have hpt : (m.take p).length = p := by rw [List.length_take]; omega
  have hcap1 : m.length ≤ cm := hbm.inv.2.1
  have HT3 : Hid ((ptake (m.take p)).2 = 3) := hide (by have h := hm.out; subst h; exact ptake_cut hi.bk hpl)
  have HT2 : Hid ((ptake (m ++ [0])).2 = 2) := hide (by rw [hm.out]; exact ptake_more hi.bk 0)
  clear hpl
  go_wp2_with fail
  refine (sttake_b _ (m.take p) noneAt w7 (by rw [List.length_take]; omega) hcm (fun _ h => h.elim)).mono ?_
  rintro e w8 ⟨t8, k, A4, c4, B4, d4, h1, rfl, hr8, hx8⟩
  obtain rfl : k = 3 := by rw [← HT3.out, ← h1.out]
  clear h1 HT3 hcm hr8
  replace hx := hx.ext hx8
  replace hy := hy.ext hx8
  replace hS := hS.ext hx8
  replace hbm := hbm.ext hx8
  replace hT := hT.ext hx8
  replace hrS := stE.ext hrS hx8
  replace hrT := stE.ext hrT hx8
  replace hxr := hxr.trans' hx8
  have hz := (Ext.rfl' w8).alloc' (.cells #[.int .u64 t8.now, .int .u64 t8.count, .slice A4 t8.links.length c4, .slice B4 t8.sess.length d4] 28)
  replace hx := hx.ext hz
  replace hy := hy.ext hz
  replace hS := hS.ext hz
  replace hbm := hbm.ext hz
  replace hT := hT.ext hz
  replace hrS := stE.ext hrS hz
  replace hrT := stE.ext hrT hz
  replace hxr := hxr.trans' hz
  go_upto_region 9 with fail
  generalize (w8.alloc (.cells #[.int .u64 t8.now, .int .u64 t8.count, .slice A4 t8.links.length c4, .slice B4 t8.sess.length d4] 28)) = w9 at *
  go_wp2_with (first | (at_builtin; refine wpList_app w9 _ rfl (.tmp 57) (.tmp 58) rfl _ [] rfl (nw_lit w9 _ (Ext.rfl' _) _ rfl) ((Ext.rfl' _).alloc' _) _ m rfl (hbm.ext ((Ext.rfl' _).alloc' _)) (by simp; omega) ?_; intro k4 A4 c4 W4 hk4 hz4 hx4 _; have hl4 : k4.length ≤ 100000000 := by rw [hk4.out]; simp only [List.nil_append]; omega) | (at_builtin; refine wpList_app w9 _ rfl (.tmp 59) (.tmp 60) rfl _ k4 rfl (own_ext hz4 ((Ext.rfl' _).alloc' _)) (hx4.alloc' _) _ [0] rfl (Bs.lit (w := W4) 5 [0] _ rfl (by simp [maxLen]) (0, 0)) (by simp only [List.length_cons, List.length_nil]; omega) ?_; intro k5 A5 c5 W5 hk5 hz5 hx5 _; have hl5 : k5.length ≤ 100000001 := by rw [hk5.out, List.length_append]; simp only [List.length_cons, List.length_nil]; omega))
  have HT2' : Hid ((ptake k5).2 = 2) := hide (by rw [hk5.out, hk4.out, List.nil_append]; exact HT2.out)
  clear HT2
  refine (sttake_b _ k5 noneAt W5 (by omega) hz5.bs (fun _ h => h.elim)).mono ?_
  rintro e w10 ⟨t9, k, A5', c5', B5, d5, h1, rfl, hr9, hx10⟩
  obtain rfl : k = 2 := by rw [← HT2'.out, ← h1.out]
  clear h1 HT2' hr9 hz4 hz5 hk4 hk5 hx4
  replace hx := hx.ext hx5
  replace hy := hy.ext hx5
  replace hS := hS.ext hx5
  replace hbm := hbm.ext hx5
  replace hT := hT.ext hx5
  replace hrS := stE.ext hrS hx5
  replace hrT := stE.ext hrT hx5
  replace hxr := hxr.trans' hx5
  replace hx := hx.ext hx10
  replace hy := hy.ext hx10
  replace hS := hS.ext hx10
  replace hbm := hbm.ext hx10
  replace hT := hT.ext hx10
  replace hrS := stE.ext hrS hx10
  replace hrT := stE.ext hrT hx10
  replace hxr := hxr.trans' hx10
  have hz := (Ext.rfl' w10).alloc' (.cells #[.int .u64 t9.now, .int .u64 t9.count, .slice A5' t9.links.length c5', .slice B5 t9.sess.length d5] 28)
  replace hx := hx.ext hz
  replace hy := hy.ext hz
  replace hS := hS.ext hz
  replace hbm := hbm.ext hz
  replace hT := hT.ext hz
  replace hrS := stE.ext hrS hz
  replace hrT := stE.ext hrT hz
  replace hxr := hxr.trans' hz
  go_upto_region 10 with fail
  generalize (w10.alloc (.cells #[.int .u64 t9.now, .int .u64 t9.count, .slice A5' t9.links.length c5', .slice B5 t9.sess.length d5] 28)) = w11 at *
  have s0 := (hS.cell 0).trans rfl
  have s1 := (hS.cell 1).trans rfl
  have s2 := (hS.cell 2).trans rfl
  have s3 := (hS.cell 3).trans rfl
  have t0 := (hT.cell 0).trans rfl
  have t1 := (hT.cell 1).trans rfl
  have t2 := (hT.cell 2).trans rfl
  have t3 := (hT.cell 3).trans rfl
  go_wp2_with fail
  refine (stsame_b s s _ _ w11 hrS hrT).mono ?_
  rintro e w12 ⟨bb, rfl, hx12, hbb⟩
  obtain rfl : bb = true := hbb.out.2 rfl
  clear s0 s1 s2 s3 t0 t1 t2 t3 hbb
  replace hx := hx.ext hx12
  replace hy := hy.ext hx12
  replace hS := hS.ext hx12
  replace hbm := hbm.ext hx12
  replace hT := hT.ext hx12
  replace hrS := stE.ext hrS hx12
  replace hrT := stE.ext hrT hx12
  replace hxr := hxr.trans' hx12
  go_wp2_with fail
  refine (asked_b _ mo 10 _ hy (by have := HM.out; omega) (by omega)).mono ?_
  rintro e w13 ⟨l2, A6, c6, hpc, hlen2, rfl, hown, hx13⟩
  have HPC := hide hpc
  clear hpc
  replace hx := hx.ext hx13
  replace hy := hy.ext hx13
  replace hS := hS.ext hx13
  replace hbm := hbm.ext hx13
  replace hT := hT.ext hx13
  replace hrS := stE.ext hrS hx13
  replace hrT := stE.ext hrT hx13
  replace hxr := hxr.trans' hx13
  obtain ⟨⟨u, an2⟩, hu⟩ : ∃ r, sall s l2 = r := ⟨_, rfl⟩
  have hiu : SInv u := by
    have h := SInv.all l2 hi (fun c hc => ⟨(HPC.out c hc).wide, (HPC.out c hc).cmok⟩)
    rw [hu] at h
    exact h
  have H1 := hide (fun (W : World) cs h (hx : Ext w13 W) => sall_b noneAt s cs _ l2 W (fun _ h => h.elim) h hi (hown.sl.ext hx) (fun c hc => (HPC.out c hc).cmok) (by omega))
  rw [hu] at H1
  have HU := hide hu
  clear hu
  have s0 := (hS.cell 0).trans rfl
  have s1 := (hS.cell 1).trans rfl
  have s2 := (hS.cell 2).trans rfl
  have s3 := (hS.cell 3).trans rfl
  go_wp2_with fail
  refine (H1.out _ _ hrS (Ext.rfl' _)).mono ?_
  rintro e w14 ⟨u_, an_, A7, c7, B7, d7, A8, c8, h1, rfl, hrU, hownA, hx14⟩
  obtain ⟨e1_, e2_⟩ := Prod.mk.inj h1.out
  replace e1_ := e1_.symm
  replace e2_ := e2_.symm
  subst e1_
  subst e2_
  clear h1 s0 s1 s2 s3
  replace hx := hx.ext hx14
  replace hy := hy.ext hx14
  replace hS := hS.ext hx14
  replace hbm := hbm.ext hx14
  replace hT := hT.ext hx14
  replace hrS := stE.ext hrS hx14
  replace hrT := stE.ext hrT hx14
  replace hxr := hxr.trans' hx14
  obtain ⟨g17, hg17⟩ : ∃ g_, w14.heap.size = g_ := ⟨_, rfl⟩
  have hU := Blk.new w14 28 #[.int .u64 u.now, .int .u64 u.count, .slice A7 u.links.length c7, .slice B7 u.sess.length d7]
  rw [hg17] at hU
  have hz := (Ext.rfl' w14).alloc' (.cells #[.int .u64 u.now, .int .u64 u.count, .slice A7 u.links.length c7, .slice B7 u.sess.length d7] 28)
  have hx1z := hx14.trans' hz
  replace hx := hx.ext hz
  replace hy := hy.ext hz
  replace hS := hS.ext hz
  replace hbm := hbm.ext hz
  replace hT := hT.ext hz
  replace hownA := hownA.ext hz
  replace hrS := stE.ext hrS hz
  replace hrT := stE.ext hrT hz
  replace hrU := stE.ext hrU hz
  replace hxr := hxr.trans' hz
  go_upto_region 14 with fail
  try rw [hg17]
  generalize (w14.alloc (.cells #[.int .u64 u.now, .int .u64 u.count, .slice A7 u.links.length c7, .slice B7 u.sess.length d7] 28)) = w15 at *
  have t0 := (hT.cell 0).trans rfl
  have t1 := (hT.cell 1).trans rfl
  have t2 := (hT.cell 2).trans rfl
  have t3 := (hT.cell 3).trans rfl
  go_wp2_with fail
  refine (H1.out _ _ hrT hx1z).mono ?_
  rintro e w16 ⟨u_, an_, A9, c9, B9, d9, A10, c10, h1, rfl, hrV, hownB, hx16⟩
  obtain ⟨e1_, e2_⟩ := Prod.mk.inj h1.out
  replace e1_ := e1_.symm
  replace e2_ := e2_.symm
  subst e1_
  subst e2_
  clear h1 t0 t1 t2 t3 H1
  replace hx := hx.ext hx16
  replace hy := hy.ext hx16
  replace hS := hS.ext hx16
  replace hbm := hbm.ext hx16
  replace hT := hT.ext hx16
  replace hownA := hownA.ext hx16
  replace hU := hU.ext hx16
  replace hrS := stE.ext hrS hx16
  replace hrT := stE.ext hrT hx16
  replace hrU := stE.ext hrU hx16
  replace hxr := hxr.trans' hx16
  obtain ⟨g19, hg19⟩ : ∃ g_, w16.heap.size = g_ := ⟨_, rfl⟩
  have hV := Blk.new w16 28 #[.int .u64 u.now, .int .u64 u.count, .slice A9 u.links.length c9, .slice B9 u.sess.length d9]
  rw [hg19] at hV
  have hz := (Ext.rfl' w16).alloc' (.cells #[.int .u64 u.now, .int .u64 u.count, .slice A9 u.links.length c9, .slice B9 u.sess.length d9] 28)
  replace hx := hx.ext hz
  replace hy := hy.ext hz
  replace hS := hS.ext hz
  replace hbm := hbm.ext hz
  replace hT := hT.ext hz
  replace hownA := hownA.ext hz
  replace hU := hU.ext hz
  replace hownB := hownB.ext hz
  replace hrS := stE.ext hrS hz
  replace hrT := stE.ext hrT hz
  replace hrU := stE.ext hrU hz
  replace hrV := stE.ext hrV hz
  replace hxr := hxr.trans' hz
  go_upto_region 15 with fail
  try rw [hg19]
  generalize (w16.alloc (.cells #[.int .u64 u.now, .int .u64 u.count, .slice A9 u.links.length c9, .slice B9 u.sess.length d9] 28)) = w17 at *
  have hanl : (an2.length : Int) ≤ 9223372036854775807 := by
    obtain ⟨_, _, _, k1, k2⟩ := hownA.form
    unfold maxLen at k2
    omega
  go_wp2_with fail
  go_loopw [21] (fun i wr => ∃ k : Nat, k ≤ an2.length ∧ i = .int .i64 k ∧ Ext w17 wr) (fun i _ => (an2.length - intOf i).toNat)
  case atStart => exact ⟨0, by omega, rfl, Ext.rfl' _⟩
  case round =>
    obtain ⟨k, hkl, rfl, hxl⟩ := hrel
    by_cases hlt : (k : Int) < an2.length
    · have HLT := hide hlt
      obtain ⟨ad, a, rfl, ha, hb, p0, p1⟩ := an_atB (hownA.ext hxl).sl (k := k) (by omega)
      obtain ⟨ad2, a2, rfl, ha2, hb2_, q0, q1⟩ := an_atB (hownB.ext hxl).sl (k := k) (by omega)
      obtain rfl : a = a2 := Option.some.inj (ha.out.symm.trans ha2.out)
      have hb1 : (0 : Int) ≤ k := by omega
      have hb2 : (k : Int) < an2.length := hlt
      go_upto_region 20 with fail
      go_region
      all_goals
        go_wp2_with fail
        go_roundw
        case rel => exact ⟨k + 1, by have := HLT.out; omega, by go_num, hxl.drew'⟩
        case measure => have := HLT.out; simp [intOf]; omega
    · replace hU := hU.ext hxl
      replace hV := hV.ext hxl
      replace hrU := stE.ext hrU hxl
      replace hrV := stE.ext hrV hxl
      replace hxr := hxr.trans' hxl
      obtain ⟨QB, hQB⟩ : ∃ q, stB u = q := ⟨_, rfl⟩
      have HSM := hide (fun (W : World) (hx : Ext wr W) => stsame_b u u _ _ W (stE.ext hrU hx) (stE.ext hrV hx))
      have HPU := hide (fun (W : World) (hx : Ext wr W) => stput_b u _ W (stE.ext hrU hx) hiu.put (by have := hiu.links.len; omega) (by have := hiu.len; omega) (fun x hx => by have := (hiu.done x hx).2; omega))
      have HPV := hide (fun (W : World) (hx : Ext wr W) => stput_b u _ W (stE.ext hrV hx) hiu.put (by have := hiu.links.len; omega) (by have := hiu.len; omega) (fun x hx => by have := (hiu.done x hx).2; omega))
      rw [hQB] at HPU HPV
      clear hQB
      go_upto_region 22 with fail
      refine Rg.regionT Tryz.checked.mixed 127 13 (by kernel_rfl) [
        (fun x_ _ => x_ = .agg #[.int .u64 u.now, .int .u64 u.count, .slice A7 u.links.length c7, .slice B7 u.sess.length d7]),
        (fun x_ _ => x_ = .agg #[.int .u64 u.now, .int .u64 u.count, .slice A9 u.links.length c9, .slice B9 u.sess.length d9]),
        (fun x_ _ => x_ = .bool true),
        (fun x_ _ => x_ = .bool true),
        (fun x_ _ => x_ = .agg #[.int .u64 u.now, .int .u64 u.count, .slice A7 u.links.length c7, .slice B7 u.sess.length d7]),
        (fun v W => Bs W v QB),
        (fun x_ _ => x_ = str QB),
        (fun x_ _ => x_ = .agg #[.int .u64 u.now, .int .u64 u.count, .slice A9 u.links.length c9, .slice B9 u.sess.length d9]),
        (fun v W => Bs W v QB),
        (fun x_ _ => x_ = str QB),
        (fun x_ _ => x_ = .bool true),
        (fun x_ _ => x_ = .bool true),
        (fun x_ _ => x_ = .bool true)] (fun W => Ext wr W) Ext rfl rfl rfl
        ?st ((Ext.rfl' wr).drew') ?ob ?en
      case st => exact ⟨fun _ _ _ h _ => h, fun _ _ _ h _ => h, fun _ _ _ h _ => h, fun _ _ _ h _ => h, fun _ _ _ h _ => h, fun _ _ _ h hx => h.ext hx, fun _ _ _ h _ => h, fun _ _ _ h _ => h, fun _ _ _ h hx => h.ext hx, fun _ _ _ h _ => h, fun _ _ _ h _ => h, fun _ _ _ h _ => h, fun _ _ _ h _ => h, trivial⟩
      case ob =>
        refine ⟨Rg.at_run [17] rfl ?_, ?_⟩
        · intro ρ W hR ⟨q17, _⟩
          replace q17 : ρ 17 = .pointer (some ⟨g17, 0, none⟩) := q17
          refine ⟨rfl, ?_⟩
          have c0_ : W.cell? ⟨g17, 0, none⟩ = some (.int .u64 u.now) := ((hU.ext hR).cell 0).trans rfl
          have c1_ : W.cell? ⟨g17, 1, none⟩ = some (.int .u64 u.count) := ((hU.ext hR).cell 1).trans rfl
          have c2_ : W.cell? ⟨g17, 2, none⟩ = some (.slice A7 u.links.length c7) := ((hU.ext hR).cell 2).trans rfl
          have c3_ : W.cell? ⟨g17, 3, none⟩ = some (.slice B7 u.sess.length d7) := ((hU.ext hR).cell 3).trans rfl
          exact Rg.run_ok (v := .agg #[.int .u64 u.now, .int .u64 u.count, .slice A7 u.links.length c7, .slice B7 u.sess.length d7]) (by simp [execOp, Rg.ev, go_sem, q17, c0_, c1_, c2_, c3_]) ⟨rfl, hR, Ext.rfl' _⟩
        refine ⟨Rg.at_run [19] rfl ?_, ?_⟩
        · intro ρ W hR ⟨q19, _⟩
          replace q19 : ρ 19 = .pointer (some ⟨g19, 0, none⟩) := q19
          refine ⟨rfl, ?_⟩
          have c0_ : W.cell? ⟨g19, 0, none⟩ = some (.int .u64 u.now) := ((hV.ext hR).cell 0).trans rfl
          have c1_ : W.cell? ⟨g19, 1, none⟩ = some (.int .u64 u.count) := ((hV.ext hR).cell 1).trans rfl
          have c2_ : W.cell? ⟨g19, 2, none⟩ = some (.slice A9 u.links.length c9) := ((hV.ext hR).cell 2).trans rfl
          have c3_ : W.cell? ⟨g19, 3, none⟩ = some (.slice B9 u.sess.length d9) := ((hV.ext hR).cell 3).trans rfl
          exact Rg.run_ok (v := .agg #[.int .u64 u.now, .int .u64 u.count, .slice A9 u.links.length c9, .slice B9 u.sess.length d9]) (by simp [execOp, Rg.ev, go_sem, q19, c0_, c1_, c2_, c3_]) ⟨rfl, hR, Ext.rfl' _⟩
        refine ⟨Rg.at_run [115, 116] rfl ?_, ?_⟩
        · intro ρ W hR ⟨q115, q116, _⟩
          replace q115 : ρ 115 = .agg #[.int .u64 u.now, .int .u64 u.count, .slice A7 u.links.length c7, .slice B7 u.sess.length d7] := q115
          replace q116 : ρ 116 = .agg #[.int .u64 u.now, .int .u64 u.count, .slice A9 u.links.length c9, .slice B9 u.sess.length d9] := q116
          refine ⟨rfl, ?_⟩
          refine Rg.enter_fn (args := #[.agg #[.int .u64 u.now, .int .u64 u.count, .slice A7 u.links.length c7, .slice B7 u.sess.length d7], .agg #[.int .u64 u.now, .int .u64 u.count, .slice A9 u.links.length c9, .slice B9 u.sess.length d9]]) rfl (by simp only [List.map_toArray, List.map_cons, List.map_nil, Rg.ev, q115, q116]) (by kernel_rfl) ?_
          refine (HSM.out W hR).mono ?_
          rintro e_ w9 ⟨b9, rfl, hxx, hb9⟩
          obtain rfl : b9 = true := hb9.out.2 rfl
          exact ⟨_, rfl, rfl, hR.trans' hxx, hxx⟩
        refine ⟨Rg.at_run [117] rfl ?_, ?_⟩
        · intro ρ W hR ⟨q117, _⟩
          replace q117 : ρ 117 = .bool true := q117
          refine ⟨rfl, ?_⟩
          exact Rg.run_ok (v := .bool true) (by simp [execOp, Rg.ev, go_sem, q117]) ⟨rfl, hR, Ext.rfl' _⟩
        refine ⟨Rg.at_run [17, 118] rfl ?_, ?_⟩
        · intro ρ W hR ⟨q17, q118, _⟩
          replace q17 : ρ 17 = .pointer (some ⟨g17, 0, none⟩) := q17
          replace q118 : ρ 118 = .bool true := q118
          refine ⟨by simp [Rg.wants, q118], ?_⟩
          have c0_ : W.cell? ⟨g17, 0, none⟩ = some (.int .u64 u.now) := ((hU.ext hR).cell 0).trans rfl
          have c1_ : W.cell? ⟨g17, 1, none⟩ = some (.int .u64 u.count) := ((hU.ext hR).cell 1).trans rfl
          have c2_ : W.cell? ⟨g17, 2, none⟩ = some (.slice A7 u.links.length c7) := ((hU.ext hR).cell 2).trans rfl
          have c3_ : W.cell? ⟨g17, 3, none⟩ = some (.slice B7 u.sess.length d7) := ((hU.ext hR).cell 3).trans rfl
          exact Rg.run_ok (v := .agg #[.int .u64 u.now, .int .u64 u.count, .slice A7 u.links.length c7, .slice B7 u.sess.length d7]) (by simp [execOp, Rg.ev, go_sem, q17, c0_, c1_, c2_, c3_]) ⟨rfl, hR, Ext.rfl' _⟩
        refine ⟨Rg.at_run [119, 118] rfl ?_, ?_⟩
        · intro ρ W hR ⟨q119, q118, _⟩
          replace q119 : ρ 119 = .agg #[.int .u64 u.now, .int .u64 u.count, .slice A7 u.links.length c7, .slice B7 u.sess.length d7] := q119
          replace q118 : ρ 118 = .bool true := q118
          refine ⟨by simp [Rg.wants, q118], ?_⟩
          refine Rg.enter_fn (args := #[.agg #[.int .u64 u.now, .int .u64 u.count, .slice A7 u.links.length c7, .slice B7 u.sess.length d7]]) rfl (by simp only [List.map_toArray, List.map_cons, List.map_nil, Rg.ev, q119]) (by kernel_rfl) ?_
          refine (HPU.out W hR).mono ?_
          rintro e w2 ⟨m9, Am9, cm9, hm9, rfl, hz9, hxx⟩
          have hm' := hm9.out
          subst hm'
          exact ⟨_, rfl, hz9.bs, hR.trans' hxx, hxx⟩
        refine ⟨Rg.at_run [120, 118] rfl ?_, ?_⟩
        · intro ρ W hR ⟨q120, q118, _⟩
          replace q120 : (fun v W => Bs W v QB) (ρ 120) W := q120
          replace q118 : ρ 118 = .bool true := q118
          refine ⟨by simp [Rg.wants, q118], ?_⟩
          have hb : Bs W (ρ 120) QB := q120
          have hs := run_str (P := Tryz.prog) hb Tryz.underlying22 Tryz.underlying5 Tryz.underlying9
          exact Rg.run_ok (v := str QB) (by simp only [execOp, Rg.ev, Sem.run_bind, Sem.run_pure, Result.andThen_ok, hs]) ⟨rfl, hR, Ext.rfl' _⟩
        refine ⟨Rg.at_run [19, 118] rfl ?_, ?_⟩
        · intro ρ W hR ⟨q19, q118, _⟩
          replace q19 : ρ 19 = .pointer (some ⟨g19, 0, none⟩) := q19
          replace q118 : ρ 118 = .bool true := q118
          refine ⟨by simp [Rg.wants, q118], ?_⟩
          have c0_ : W.cell? ⟨g19, 0, none⟩ = some (.int .u64 u.now) := ((hV.ext hR).cell 0).trans rfl
          have c1_ : W.cell? ⟨g19, 1, none⟩ = some (.int .u64 u.count) := ((hV.ext hR).cell 1).trans rfl
          have c2_ : W.cell? ⟨g19, 2, none⟩ = some (.slice A9 u.links.length c9) := ((hV.ext hR).cell 2).trans rfl
          have c3_ : W.cell? ⟨g19, 3, none⟩ = some (.slice B9 u.sess.length d9) := ((hV.ext hR).cell 3).trans rfl
          exact Rg.run_ok (v := .agg #[.int .u64 u.now, .int .u64 u.count, .slice A9 u.links.length c9, .slice B9 u.sess.length d9]) (by simp [execOp, Rg.ev, go_sem, q19, c0_, c1_, c2_, c3_]) ⟨rfl, hR, Ext.rfl' _⟩
        refine ⟨Rg.at_run [122, 118] rfl ?_, ?_⟩
        · intro ρ W hR ⟨q122, q118, _⟩
          replace q122 : ρ 122 = .agg #[.int .u64 u.now, .int .u64 u.count, .slice A9 u.links.length c9, .slice B9 u.sess.length d9] := q122
          replace q118 : ρ 118 = .bool true := q118
          refine ⟨by simp [Rg.wants, q118], ?_⟩
          refine Rg.enter_fn (args := #[.agg #[.int .u64 u.now, .int .u64 u.count, .slice A9 u.links.length c9, .slice B9 u.sess.length d9]]) rfl (by simp only [List.map_toArray, List.map_cons, List.map_nil, Rg.ev, q122]) (by kernel_rfl) ?_
          refine (HPV.out W hR).mono ?_
          rintro e w2 ⟨m9, Am9, cm9, hm9, rfl, hz9, hxx⟩
          have hm' := hm9.out
          subst hm'
          exact ⟨_, rfl, hz9.bs, hR.trans' hxx, hxx⟩
        refine ⟨Rg.at_run [123, 118] rfl ?_, ?_⟩
        · intro ρ W hR ⟨q123, q118, _⟩
          replace q123 : (fun v W => Bs W v QB) (ρ 123) W := q123
          replace q118 : ρ 118 = .bool true := q118
          refine ⟨by simp [Rg.wants, q118], ?_⟩
          have hb : Bs W (ρ 123) QB := q123
          have hs := run_str (P := Tryz.prog) hb Tryz.underlying22 Tryz.underlying5 Tryz.underlying9
          exact Rg.run_ok (v := str QB) (by simp only [execOp, Rg.ev, Sem.run_bind, Sem.run_pure, Result.andThen_ok, hs]) ⟨rfl, hR, Ext.rfl' _⟩
        refine ⟨Rg.at_run [121, 124, 118] rfl ?_, ?_⟩
        · intro ρ W hR ⟨q121, q124, q118, _⟩
          replace q121 : ρ 121 = str QB := q121
          replace q124 : ρ 124 = str QB := q124
          replace q118 : ρ 118 = .bool true := q118
          refine ⟨by simp [Rg.wants, q118], ?_⟩
          exact Rg.run_ok (v := .bool true) (by simp [execOp, Rg.ev, go_sem, q121, q124]) ⟨rfl, hR, Ext.rfl' _⟩
        refine ⟨Rg.at_run [118, 125] rfl ?_, ?_⟩
        · intro ρ W hR ⟨q118, q125, _⟩
          replace q118 : ρ 118 = .bool true := q118
          replace q125 : ρ 125 = .bool true := q125
          refine ⟨rfl, ?_⟩
          exact Rg.run_ok (v := .bool true) (by simp [execOp, Rg.ev, go_sem, q118, q125]) ⟨rfl, hR, Ext.rfl' _⟩
        refine ⟨Rg.at_run [126] rfl ?_, ?_⟩
        · intro ρ W hR ⟨q126, _⟩
          replace q126 : ρ 126 = .bool true := q126
          refine ⟨rfl, ?_⟩
          exact Rg.run_ok (v := .bool true) (by simp [execOp, Rg.ev, go_sem, q126]) ⟨rfl, hR, Ext.rfl' _⟩
        trivial
      case en =>
        intro tm W hR hsz hk
        rw [Rg.fin_eq (ds := [115, 116, 117, 118, 119, 120, 121, 122, 123, 124, 125, 126, 6]) rfl rfl rfl hsz hk]
        have k6 : tm.getD 6 undef = .bool true := hk 6
        have k115 : tm.getD 115 undef = .agg #[.int .u64 u.now, .int .u64 u.count, .slice A7 u.links.length c7, .slice B7 u.sess.length d7] := hk 115
        have k116 : tm.getD 116 undef = .agg #[.int .u64 u.now, .int .u64 u.count, .slice A9 u.links.length c9, .slice B9 u.sess.length d9] := hk 116
        have k117 : tm.getD 117 undef = .bool true := hk 117
        have k118 : tm.getD 118 undef = .bool true := hk 118
        have k119 : tm.getD 119 undef = .agg #[.int .u64 u.now, .int .u64 u.count, .slice A7 u.links.length c7, .slice B7 u.sess.length d7] := hk 119
        have k120 : (fun v W => Bs W v QB) (tm.getD 120 undef) W := hk 120
        have k121 : tm.getD 121 undef = str QB := hk 121
        have k122 : tm.getD 122 undef = .agg #[.int .u64 u.now, .int .u64 u.count, .slice A9 u.links.length c9, .slice B9 u.sess.length d9] := hk 122
        have k123 : (fun v W => Bs W v QB) (tm.getD 123 undef) W := hk 123
        have k124 : tm.getD 124 undef = str QB := hk 124
        have k125 : tm.getD 125 undef = .bool true := hk 125
        have k126 : tm.getD 126 undef = .bool true := hk 126
        clear hk hsz
        simp only [Rg.putAll, List.setIfInBounds_toArray, List.set_cons_zero, List.set_cons_succ, k6, k115, k116, k117, k118, k119, k121, k122, k124, k125, k126]
        clear k6
        clear k115
        clear k116
        clear k117
        clear k118
        clear k119
        generalize tm.getD 120 undef = u120 at *
        clear k121
        clear k122
        generalize tm.getD 123 undef = u123 at *
        clear k124
        clear k125
        clear k126
        refine Rg.nil_list ?_

        go_wp2
        go_ret
        exact ⟨rfl, hxr.trans' hR⟩
end Go.Proofs.YtamimdlaclglkaaGreat

/- The statement 'StateBackSaid': whatever is handed in, the law answers true, and what was handed in is as it was. -/
namespace Go.Proofs.YtamimdlaclglkaaGreat.stateBack
set_option linter.unusedVariables false
set_option linter.unusedSimpArgs false
set_option linter.unnecessarySimpa false
set_option maxRecDepth 100000
open Go.ChangeShapes Go.WideShapes Go.ChangeAt Go.RowKit
open Go.ChangeMaps (open_string shut_string)

set_option maxRecDepth 100000 in
set_option maxHeartbeats 2000000 in
theorem lifted (os : Os) (started : os.Started) (H : Type) (enc : TypeId × Value → H) :
    ReturnsInHanded {} Tryz.checked os 6 .any (Rows.stateBackSpec.pre6 enc Tryz.prog Tryz.f6 Rows.stateBackRow.domain false) (Rows.stateBackSpec.post enc Tryz.prog Tryz.f6 false true false false) := by
  refine returnsInHanded_of_change (C := Tryz.checked) own started (by kernel_rfl) Tryz.func6
    (ChangeSpec.witness6 (enc := enc) (C := Tryz.checked) false ⟨#[], #[.slice none 0 0, .int .i64 0, .slice none 0 0], []⟩ 8 (by kernel_rfl) (by kernel_rfl) (by kernel_rfl) (by kernel_rfl)) ?_
  intro W base args ds gs before hval0 hW hcnd _
  have hval : ∀ (j : Nat) t v, Tryz.f6.params[j]? = some t → args[j]? = some v → Value.okWide Tryz.prog W .any base t v := hval0
  have hW' := hW
  obtain ⟨p, q, hA0, hV, rfl, hfz, hnd⟩ := hW
  have hA : DataW.TrodAll enc Tryz.prog W 0 (fun _ => true) true Tryz.f6.params.toList args.toList ds p := hA0
  rw [Tryz.params6] at hA hval
  obtain ⟨v0, vs0, d0, ds0, p0, q0, hargs, rfl, rfl, h0, r0⟩ := trodAll_cons hA
  obtain ⟨v1, vs1, d1, ds1, p1, q1, rfl, rfl, rfl, h1, r1⟩ := trodAll_cons r0
  obtain ⟨v2, vs2, d2, ds2, p2, q2, rfl, rfl, rfl, h2, r2⟩ := trodAll_cons r1
  obtain ⟨rfl, rfl, rfl⟩ := trodAll_nil r2
  obtain rfl : args = #[v0, v1, v2] := by cases args; simp_all
  obtain ⟨rfl, rfl⟩ := trodVars_none hV
  obtain ⟨a0, len0, cap0, rfl⟩ := okWide_slice Tryz.underlying22 (hval 0 22 v0 rfl rfl)
  have k0 := h0
  have lt0 : ∀ x ∈ p0, x.block < W.heap.size := by obtain ⟨m, hm⟩ := k0; exact DataW.trod_lt m _ _ _ hm
  obtain ⟨b0, hb0⟩ : ∃ b, Bs W (.slice a0 len0 cap0) b := by
    obtain ⟨fuel, hf⟩ := h0
    rcases open_ints Tryz.underlying22 Tryz.underlying5 (by kernel_rfl) hf with ⟨hcs, _⟩ | ⟨x, l, c, zs, hcs, _, hl, hm, hz, _, hcell, hwz⟩
    · simp [Value.cells] at hcs
      obtain ⟨rfl, rfl, rfl⟩ := hcs
      exact ⟨[], bs_none⟩
    · simp [Value.cells] at hcs
      obtain ⟨rfl, rfl, rfl⟩ := hcs
      exact bs_of_ints hl hm (by simpa using hz) hcell hwz
  obtain ⟨a1, rfl, rfl, rfl, w1⟩ := open_int Tryz.underlying3 (hval 1 3 v1 rfl rfl) h1
  have i1 := w1
  simp [Lit.wf, IntKind.min, IntKind.max, IntKind.bits, IntKind.signed] at i1
  obtain ⟨a2, len2, cap2, rfl⟩ := okWide_slice Tryz.underlying22 (hval 2 22 v2 rfl rfl)
  have k2 := h2
  have lt2 : ∀ x ∈ p2, x.block < W.heap.size := by obtain ⟨m, hm⟩ := k2; exact DataW.trod_lt m _ _ _ hm
  obtain ⟨b2, hb2⟩ : ∃ b, Bs W (.slice a2 len2 cap2) b := by
    obtain ⟨fuel, hf⟩ := h2
    rcases open_ints Tryz.underlying22 Tryz.underlying5 (by kernel_rfl) hf with ⟨hcs, _⟩ | ⟨x, l, c, zs, hcs, _, hl, hm, hz, _, hcell, hwz⟩
    · simp [Value.cells] at hcs
      obtain ⟨rfl, rfl, rfl⟩ := hcs
      exact ⟨[], bs_none⟩
    · simp [Value.cells] at hcs
      obtain ⟨rfl, rfl, rfl⟩ := hcs
      exact bs_of_ints hl hm (by simpa using hz) hcell hwz
  clear hA0 hval0
  refine (stateBack_walk _ b0 a1 _ b2 W hb0 i1 hb2).mono fun e W' ⟨he, bel⟩ => ?_
  subst he
  exact ⟨_, rfl, _, _, _, [], _, [], hW', trodAll_mk1 (shut_bool Tryz.underlying4 _), (trodAll_cons_mk (Below.trod laidOut (by kernel_rfl) (of_decide_eq_true (by kernel_rfl)) k0 bel lt0) (trodAll_cons_mk (shut_int Tryz.underlying3 w1) (trodAll_cons_mk (Below.trod laidOut (by kernel_rfl) (of_decide_eq_true (by kernel_rfl)) k2 bel lt2) trodAll_mk0))), rfl, bel.frame _, fun h => by cases h⟩

theorem over : Rows.stateBackRow.holds Tryz.pinned (OpenSpec.ofChange Rows.stateBackSpec) :=
  OpenClaim.holds_of_wide 6 Tryz.f6 rfl rfl rfl rfl rfl rfl rfl ⟨rfl, rfl, rfl, rfl, rfl⟩ rfl rfl rfl rfl rfl (by kernel_rfl) Tryz.func6 (by kernel_rfl)
    (of_decide_eq_true (by kernel_rfl)) (by unfold Func.isWrapper; first | (rw [if_pos (by decide +kernel)]; kernel_rfl) | (rw [if_neg (by decide +kernel)]; exact ⟨rfl, rfl⟩))
    (fun os started H enc _ => lifted os started H enc)

/-- THE STATEMENT -/
theorem proved : Rows.StateBackSaid := over
#print axioms proved
end Go.Proofs.YtamimdlaclglkaaGreat.stateBack

