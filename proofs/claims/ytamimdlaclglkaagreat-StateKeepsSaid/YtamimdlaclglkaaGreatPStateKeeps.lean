import Derived.Test.YtamimdlaclglkaaGreatPk32
import Derived.Test.YtamimdlaclglkaaGreatPk46
import Derived.Test.YtamimdlaclglkaaGreatPk49
import Derived.Test.YtamimdlaclglkaaGreatPk50
import Derived.Test.YtamimdlaclglkaaGreatPk45
import Derived.Test.YtamimdlaclglkaaGreatPk2
/- A state is read off its bytes; of fewer bytes none is, of more none. -/
namespace Go.Proofs.YtamimdlaclglkaaGreat
set_option linter.unusedVariables false
set_option linter.unusedSimpArgs false
set_option linter.unnecessarySimpa false
set_option maxRecDepth 100000
open Go.RowKit
/-- the bytes B are read as a, and none of their true fronts is -/
structure RdOk {α : Type} (f : Rdr → α × Rdr) (B : Bytes) (a : α) : Prop where
  full : ∀ rest : Bytes, f (B ++ rest, 0) = (a, (rest, 0))
  cut : ∀ p : Nat, p < B.length → (f (B.take p, 0)).2.2 = 3
/-- an error stays -/
def KeepE {α : Type} (f : Rdr → α × Rdr) : Prop := ∀ s : Rdr, s.2 ≠ 0 → (f s).2 = s
def rbind {α β : Type} (f : Rdr → α × Rdr) (g : α → Rdr → β × Rdr) (s : Rdr) : β × Rdr := g (f s).1 (f s).2
theorem KeepE.bind {α β : Type} {f : Rdr → α × Rdr} {g : α → Rdr → β × Rdr} (h : KeepE f) (hg : ∀ x, KeepE (g x)) : KeepE (rbind f g) := fun s hs => by
  unfold rbind
  rw [hg _ _ (by rw [h s hs]; exact hs), h s hs]
theorem RdOk.bind {α β : Type} {f : Rdr → α × Rdr} {g : α → Rdr → β × Rdr} {B C : Bytes} {a : α} {b : β} (h : RdOk f B a) (hg : RdOk (g a) C b) (hk : ∀ x, KeepE (g x)) : RdOk (rbind f g) (B ++ C) b := by
  refine ⟨fun rest => ?_, fun p hp => ?_⟩
  · unfold rbind
    rw [List.append_assoc, h.full]
    exact hg.full rest
  · unfold rbind
    rcases Nat.lt_or_ge p B.length with hlt | hge
    · rw [List.take_append_of_le_length (Nat.le_of_lt hlt)]
      have h3 := h.cut p hlt
      rw [hk _ _ (by rw [h3]; decide)]
      exact h3
    · rw [show (B ++ C).take p = B ++ C.take (p - B.length) by rw [List.take_append, List.take_of_length_le hge], h.full]
      refine hg.cut _ ?_
      rw [List.length_append] at hp
      omega
theorem RdOk.pure {α : Type} (x : α) : RdOk (fun s => (x, s)) [] x := ⟨fun _ => rfl, fun p hp => by simp at hp⟩
theorem KeepE.num (n : Nat) : KeepE (pnum n) := fun s hs => by unfold pnum; rw [if_neg hs]
theorem KeepE.text : KeepE ptext := fun s hs => by unfold ptext; rw [if_neg hs]
theorem KeepE.form {α : Type} (x : α) (c : Bool) : KeepE (fun s => (x, pform c s)) := fun s hs => by show pform c s = s; unfold pform; rw [if_neg (fun h => hs h.1)]
theorem RdOk.num (n v : Nat) (h : v < 256 ^ n) : RdOk (pnum n) (be n v) (v : Int) := by
  refine ⟨fun rest => ?_, fun p hp => ?_⟩
  · unfold pnum
    rw [if_pos rfl, if_neg (by simp [be_length])]
    simp only
    rw [List.take_left' (be_length n v), List.drop_left' (be_length n v), val_be, Nat.mod_eq_of_lt h]
  · unfold pnum
    rw [be_length] at hp
    rw [if_pos rfl, if_pos (by simp [be_length]; omega)]
theorem RdOk.text (t : Bytes) (h : t.length < 4294967296) : RdOk ptext (txB t) t := by
  have e : txB t = oputBytes [] t := by simp [oputBytes, txB]
  refine ⟨fun rest => ?_, fun p hp => ?_⟩
  · unfold ptext
    rw [if_pos rfl]
    simp only
    rw [e, otakeBytes_put _ _ h]
    simp only
    rw [← e, show ((t.length + 4 : Nat) : Int).toNat = (txB t).length by rw [txB_len]; omega, List.drop_left]
  · unfold ptext
    rw [if_pos rfl]
    simp only
    rw [e, otakeBytes_cut _ _ h (by rw [txB_len] at hp; omega)]
theorem RdOk.form {α : Type} (x : α) {c : Bool} (hc : c = false) : RdOk (fun s => (x, pform c s)) [] x := ⟨fun rest => by subst hc; simp [pform], fun p hp => by simp at hp⟩
theorem KeepE.times {α : Type} (f : Rdr → α × Rdr) : ∀ n, KeepE (ptimes f n)
  | 0 => fun _ _ => rfl
  | n + 1 => fun s hs => by unfold ptimes; rw [if_neg hs]
theorem RdOk.times {α : Type} {f : Rdr → α × Rdr} {B : α → Bytes} (hk : KeepE f) : ∀ l : List α, (∀ a ∈ l, RdOk f (B a) a) → RdOk (ptimes f l.length) ((l.map B).flatten) l
  | [], _ => ⟨fun _ => rfl, fun p hp => by simp at hp⟩
  | a :: l, h => by
    have h1 := h a List.mem_cons_self
    have h2 := RdOk.times hk l fun x hx => h x (List.mem_cons_of_mem _ hx)
    have e : RdOk (rbind f fun x => rbind (ptimes f l.length) fun y s => (x :: y, s)) (B a ++ ((l.map B).flatten ++ [])) (a :: l) :=
      h1.bind (h2.bind (RdOk.pure _) (fun _ _ _ => rfl)) (fun x => (KeepE.times f _).bind (fun _ _ _ => rfl))
    have e2 : ∀ s : Rdr, s.2 = 0 → ptimes f (a :: l).length s = (rbind f fun x => rbind (ptimes f l.length) fun y s => (x :: y, s)) s := fun s hs => by
      show ptimes f (l.length + 1) s = _
      unfold ptimes
      rw [if_pos hs]
      rfl
    simp only [List.append_nil] at e
    exact ⟨fun rest => by rw [List.map_cons, List.flatten_cons, e2 _ rfl]; exact e.full rest, fun p hp => by rw [List.map_cons, List.flatten_cons] at hp ⊢; rw [e2 _ rfl]; exact e.cut p hp⟩
/-- what lists a state may have so that its bytes tell them -/
structure BkOk (s : St) : Prop where
  now : 0 ≤ s.now ∧ s.now ≤ 18446744073709551615
  count : 0 ≤ s.count ∧ s.count ≤ 18446744073709551615
  ll : s.links.length ≤ 65535
  sl : s.sess.length ≤ 65535
  link : ∀ l ∈ s.links, l.name.length < 4294967296 ∧ l.url.length < 4294967296 ∧ 0 ≤ l.till ∧ l.till ≤ 18446744073709551615
  sess : ∀ x ∈ s.sess, (0 ≤ x.client ∧ x.client ≤ 255) ∧ (0 ≤ x.high ∧ x.high ≤ 18446744073709551615) ∧ x.done.length ≤ 255 ∧ ∀ d ∈ x.done, (0 ≤ d.seq ∧ d.seq ≤ 18446744073709551615) ∧ (0 ≤ d.an.err ∧ d.an.err ≤ 16) ∧ d.an.text.length < 4294967296
theorem RdOk.numI (n : Nat) (v : Int) (h0 : 0 ≤ v) (h : v.toNat < 256 ^ n) : RdOk (pnum n) (be n v.toNat) v := by
  have := RdOk.num n v.toNat h
  rwa [Int.toNat_of_nonneg h0] at this
theorem RdOk.link {l : Ln} (h : l.name.length < 4294967296 ∧ l.url.length < 4294967296 ∧ 0 ≤ l.till ∧ l.till ≤ 18446744073709551615) : RdOk plink (lnB l) l := by
  obtain ⟨a1, a2, a3, a4⟩ := h
  obtain ⟨nm, ur, tl, md⟩ := l
  simp only at a1 a2 a3 a4
  have hd : RdOk (pnum 1) (be 1 (if md then 1 else 0)) ((if md then 1 else 0 : Nat) : Int) := RdOk.num 1 _ (by cases md <;> decide)
  have := (RdOk.text nm a1).bind (g := fun n => rbind ptext fun u => rbind (pnum 8) fun t => rbind (pnum 1) fun d s => ((⟨n, u, t, decide (d = 1)⟩ : Ln), pform (decide (1 < d)) s))
    ((RdOk.text ur a2).bind ((RdOk.numI 8 tl a3 (by have e : (256 : Nat) ^ 8 = 18446744073709551616 := rfl; omega)).bind (hd.bind (b := (⟨nm, ur, tl, md⟩ : Ln)) (C := []) (by
      have e1 : decide (((if md then 1 else 0 : Nat) : Int) = 1) = md := by cases md <;> rfl
      have e2 : decide ((1 : Int) < ((if md then 1 else 0 : Nat) : Int)) = false := by cases md <;> rfl
      rw [e1]
      exact RdOk.form _ e2) (fun d => KeepE.form _ _)) (fun t => (KeepE.num 1).bind fun d => KeepE.form _ _)) (fun u => (KeepE.num 8).bind fun t => (KeepE.num 1).bind fun d => KeepE.form _ _)) (fun n => KeepE.text.bind fun u => (KeepE.num 8).bind fun t => (KeepE.num 1).bind fun d => KeepE.form _ _)
  have eB : lnB ⟨nm, ur, tl, md⟩ = txB nm ++ (txB ur ++ (be 8 tl.toNat ++ (be 1 (if md then 1 else 0) ++ []))) := by simp [lnB]
  rw [eB]
  exact this
theorem KeepE.link : KeepE plink := by
  have : KeepE (rbind ptext fun n => rbind ptext fun u => rbind (pnum 8) fun t => rbind (pnum 1) fun d s => ((⟨n, u, t, decide (d = 1)⟩ : Ln), pform (decide (1 < d)) s)) :=
    KeepE.text.bind fun n => KeepE.text.bind fun u => (KeepE.num 8).bind fun t => (KeepE.num 1).bind fun d => KeepE.form _ _
  exact this
theorem RdOk.done {d : Dn} (h1 : 0 ≤ d.seq ∧ d.seq ≤ 18446744073709551615) (h2 : 0 ≤ d.an.err ∧ d.an.err ≤ 16) (h3 : d.an.text.length < 4294967296) : RdOk pdone (dnB d) d := by
  obtain ⟨q, e, t⟩ := d
  simp only at h1 h2 h3
  have hf : RdOk (fun s : Rdr => (e, pform (decide (16 < e)) s)) [] e := RdOk.form e (by simp; omega)
  have := (RdOk.numI 8 q h1.1 (by have e : (256 : Nat) ^ 8 = 18446744073709551616 := rfl; omega)).bind (g := fun q => rbind (pnum 1) fun e => rbind (fun s => (e, pform (decide (16 < e)) s)) fun e => rbind ptext fun t s => ((⟨q, ⟨e, t⟩⟩ : Dn), s))
    ((RdOk.numI 1 e h2.1 (by have e : (256 : Nat) ^ 1 = 256 := rfl; omega)).bind (hf.bind ((RdOk.text t h3).bind (RdOk.pure (⟨q, ⟨e, t⟩⟩ : Dn)) (fun _ _ _ => rfl)) (fun e => KeepE.text.bind fun _ _ _ => rfl)) (fun e => (KeepE.form _ _).bind fun e => KeepE.text.bind fun _ _ _ => rfl))
    (fun q => (KeepE.num 1).bind fun e => (KeepE.form _ _).bind fun e => KeepE.text.bind fun _ _ _ => rfl)
  have eB : dnB ⟨q, ⟨e, t⟩⟩ = be 8 q.toNat ++ (be 1 e.toNat ++ ([] ++ (txB t ++ []))) := by simp [dnB]
  rw [eB]
  exact this
theorem KeepE.done : KeepE pdone := by
  have : KeepE (rbind (pnum 8) fun q => rbind (pnum 1) fun e => rbind (fun s => (e, pform (decide (16 < e)) s)) fun e => rbind ptext fun t s => ((⟨q, ⟨e, t⟩⟩ : Dn), s)) :=
    (KeepE.num 8).bind fun q => (KeepE.num 1).bind fun e => (KeepE.form _ _).bind fun e => KeepE.text.bind fun _ _ _ => rfl
  exact this
theorem KeepE.sess : KeepE psess := by
  have : KeepE (rbind (pnum 1) fun a => rbind (pnum 8) fun b => rbind (pnum 1) fun n => rbind (ptimes pdone n.toNat) fun l s => ((⟨a, b, l⟩ : Se), s)) :=
    (KeepE.num 1).bind fun a => (KeepE.num 8).bind fun b => (KeepE.num 1).bind fun n => (KeepE.times _ _).bind fun _ _ _ => rfl
  exact this
theorem RdOk.sess {x : Se} (h : (0 ≤ x.client ∧ x.client ≤ 255) ∧ (0 ≤ x.high ∧ x.high ≤ 18446744073709551615) ∧ x.done.length ≤ 255 ∧ ∀ d ∈ x.done, (0 ≤ d.seq ∧ d.seq ≤ 18446744073709551615) ∧ (0 ≤ d.an.err ∧ d.an.err ≤ 16) ∧ d.an.text.length < 4294967296) : RdOk psess (seB x) x := by
  obtain ⟨a, b, l⟩ := x
  obtain ⟨h1, h2, h3, h4⟩ := h
  simp only at h1 h2 h3 h4
  have e1 : (256 : Nat) ^ 1 = 256 := rfl
  have e8 : (256 : Nat) ^ 8 = 18446744073709551616 := rfl
  have hl : RdOk (ptimes pdone ((l.length : Nat) : Int).toNat) ((l.map dnB).flatten) l := by
    rw [Int.toNat_natCast]
    exact RdOk.times KeepE.done l fun d hd => RdOk.done (h4 d hd).1 (h4 d hd).2.1 (h4 d hd).2.2
  have := (RdOk.numI 1 a h1.1 (by omega)).bind (g := fun a => rbind (pnum 8) fun b => rbind (pnum 1) fun n => rbind (ptimes pdone n.toNat) fun l s => ((⟨a, b, l⟩ : Se), s))
    ((RdOk.numI 8 b h2.1 (by omega)).bind ((RdOk.num 1 l.length (by omega)).bind (hl.bind (RdOk.pure (⟨a, b, l⟩ : Se)) (fun _ _ _ => rfl)) (fun n => (KeepE.times _ _).bind fun _ _ _ => rfl)) (fun b => (KeepE.num 1).bind fun n => (KeepE.times _ _).bind fun _ _ _ => rfl))
    (fun a => (KeepE.num 8).bind fun b => (KeepE.num 1).bind fun n => (KeepE.times _ _).bind fun _ _ _ => rfl)
  have eB : seB ⟨a, b, l⟩ = be 1 a.toNat ++ (be 8 b.toNat ++ (be 1 l.length ++ ((l.map dnB).flatten ++ []))) := by simp [seB, seH]
  rw [eB]
  exact this
def pstR : Rdr → St × Rdr := rbind (pnum 8) fun a => rbind (pnum 8) fun c => rbind (pnum 2) fun n => rbind (ptimes plink n.toNat) fun l => rbind (pnum 2) fun m => rbind (ptimes psess m.toNat) fun x s => ((⟨a, c, l, x⟩ : St), s)
theorem RdOk.state {s : St} (h : BkOk s) : RdOk pstR (stB s) s := by
  obtain ⟨a, c, l, x⟩ := s
  obtain ⟨h1, h2, h3, h4, h5, h6⟩ := h
  simp only at h1 h2 h3 h4 h5 h6
  have e2 : (256 : Nat) ^ 2 = 65536 := rfl
  have e8 : (256 : Nat) ^ 8 = 18446744073709551616 := rfl
  have hl : RdOk (ptimes plink ((l.length : Nat) : Int).toNat) ((l.map lnB).flatten) l := by
    rw [Int.toNat_natCast]
    exact RdOk.times KeepE.link l fun d hd => RdOk.link (h5 d hd)
  have hs : RdOk (ptimes psess ((x.length : Nat) : Int).toNat) ((x.map seB).flatten) x := by
    rw [Int.toNat_natCast]
    exact RdOk.times KeepE.sess x fun d hd => RdOk.sess (h6 d hd)
  have k5 : ∀ (a c : Int) (l : List Ln) (m : Int), KeepE (rbind (ptimes psess m.toNat) fun x s => ((⟨a, c, l, x⟩ : St), s)) := fun a c l m => (KeepE.times _ _).bind fun _ _ _ => rfl
  have k4 : ∀ (a c : Int) (l : List Ln), KeepE (rbind (pnum 2) fun m => rbind (ptimes psess m.toNat) fun x s => ((⟨a, c, l, x⟩ : St), s)) := fun a c l => (KeepE.num 2).bind fun m => k5 a c l m
  have k3 : ∀ (a c n : Int), KeepE (rbind (ptimes plink n.toNat) fun l => rbind (pnum 2) fun m => rbind (ptimes psess m.toNat) fun x s => ((⟨a, c, l, x⟩ : St), s)) := fun a c n => (KeepE.times _ _).bind fun l => k4 a c l
  have k2 : ∀ (a c : Int), KeepE (rbind (pnum 2) fun n => rbind (ptimes plink n.toNat) fun l => rbind (pnum 2) fun m => rbind (ptimes psess m.toNat) fun x s => ((⟨a, c, l, x⟩ : St), s)) := fun a c => (KeepE.num 2).bind fun n => k3 a c n
  have k1 : ∀ (a : Int), KeepE (rbind (pnum 8) fun c => rbind (pnum 2) fun n => rbind (ptimes plink n.toNat) fun l => rbind (pnum 2) fun m => rbind (ptimes psess m.toNat) fun x s => ((⟨a, c, l, x⟩ : St), s)) := fun a => (KeepE.num 8).bind fun c => k2 a c
  have := (RdOk.numI 8 a h1.1 (by omega)).bind ((RdOk.numI 8 c h2.1 (by omega)).bind ((RdOk.num 2 l.length (by omega)).bind (hl.bind ((RdOk.num 2 x.length (by omega)).bind (hs.bind (RdOk.pure (⟨a, c, l, x⟩ : St)) (fun _ _ _ => rfl)) (fun m => k5 a c l m)) (fun l => k4 a c l)) (fun n => k3 a c n)) (fun c => k2 a c)) k1
  have eB : stB ⟨a, c, l, x⟩ = be 8 a.toNat ++ (be 8 c.toNat ++ (be 2 l.length ++ ((l.map lnB).flatten ++ (be 2 x.length ++ ((x.map seB).flatten ++ []))))) := by simp [stB, stH]
  rw [eB]
  exact this
theorem pstate_eq (b : Bytes) : pstate b = pstR (b, 0) := rfl
theorem ptake_put {s : St} (h : BkOk s) (hs : standsB s = true) : ptake (stB s) = (s, 0) := by
  have := (RdOk.state h).full []
  rw [List.append_nil] at this
  unfold ptake
  rw [pstate_eq, this]
  simp [hs]
theorem ptake_cut {s : St} (h : BkOk s) {p : Nat} (hp : p < (stB s).length) : (ptake ((stB s).take p)).2 = 3 := by
  have := (RdOk.state h).cut p hp
  unfold ptake
  rw [pstate_eq, if_pos (by rw [this]; decide), this]
theorem ptake_more {s : St} (h : BkOk s) (c : UInt8) : (ptake (stB s ++ [c])).2 = 2 := by
  have := (RdOk.state h).full [c]
  unfold ptake
  rw [pstate_eq, this]
  simp
end Go.Proofs.YtamimdlaclglkaaGreat

/- The states that commands leave have bytes that tell them. -/
namespace Go.Proofs.YtamimdlaclglkaaGreat
set_option linter.unusedVariables false
set_option linter.unusedSimpArgs false
set_option linter.unnecessarySimpa false
set_option maxRecDepth 100000
open Go.RowKit
theorem SInv.bk {s : St} (h : SInv s) : BkOk s := by
  have hl := h.links
  have a1 := hl.now0; have a2 := hl.now1; have a3 := hl.count0; have a4 := hl.count1; have a5 := hl.len; have a6 := h.len
  refine ⟨⟨a1, by omega⟩, ⟨a3, by omega⟩, by omega, by omega, fun l hm => ?_, fun x hm => ?_⟩
  · have b1 := hl.name_len hm; have b2 := hl.urls l hm; have b3 := hl.tills l hm
    exact ⟨Nat.lt_of_le_of_lt b1 (by decide), by omega, b3.1, by omega⟩
  · have c1 := h.win x hm; have c2 := h.done x hm
    refine ⟨⟨c1.2.1, by omega⟩, ⟨c1.2.2.2.1, by omega⟩, by omega, fun d hd => ?_⟩
    have d1 := c1.1.2 d hd; have d2 := h.texts x hm d hd
    exact ⟨⟨by omega, by omega⟩, d2.2, by omega⟩
theorem risesB_of {α : Type} {lt : α → α → Bool} : ∀ {l : List α}, l.Pairwise (fun a b => lt a b = true) → risesB lt l = true
  | [], _ => rfl
  | [_], _ => rfl
  | a :: b :: l, h => by
    have h1 := List.pairwise_cons.1 h
    show (lt a b && risesB lt (b :: l)) = true
    rw [h1.1 b List.mem_cons_self, risesB_of h1.2]
    rfl
theorem SInv.stands {s : St} (h : SInv s) : standsB s = true := by
  unfold standsB
  rw [risesB_of h.links.rise, risesB_of (h.rise.imp fun h => by simpa using h)]
  simp only [Bool.true_and, List.all_eq_true]
  intro x hx
  exact risesB_of ((h.done x hx).1.imp fun h => by simpa using h)
theorem bflat_max {α : Type} (f : α → Bytes) (n : Nat) : ∀ (l : List α), (∀ a ∈ l, (f a).length ≤ n) → ((l.map f).flatten).length ≤ l.length * n
  | [], _ => by simp
  | a :: l, h => by
    have h1 := h a List.mem_cons_self
    have h2 := bflat_max f n l fun x hx => h x (List.mem_cons_of_mem _ hx)
    rw [List.map_cons, List.flatten_cons, List.length_append, List.length_cons, Nat.add_mul]
    omega
theorem SInv.bytes {s : St} (h : SInv s) : (stB s).length ≤ 100000000 := by
  have hl := h.links
  have a5 := hl.len; have a6 := h.len
  have e1 := bflat_max lnB 1000 s.links fun l hm => by
    have b1 := hl.name_len hm; have b2 := hl.urls l hm
    have : l.name.length ≤ 100 := Nat.le_trans b1 (by decide)
    rw [lnB_len]; omega
  have e2 := bflat_max seB 5000000 s.sess fun x hm => by
    have c2 := h.done x hm
    have e3 := bflat_max dnB 1000100 x.done fun d hd => by
      have d2 := h.texts x hm d hd
      rw [dnB_len]; omega
    have : x.done.length * 1000100 ≤ 4 * 1000100 := Nat.mul_le_mul_right _ c2.2
    rw [seB_len]; omega
  rw [stB_len]
  have : s.links.length * 1000 ≤ 40 * 1000 := Nat.mul_le_mul_right _ a5
  have : s.sess.length * 5000000 ≤ 4 * 5000000 := Nat.mul_le_mul_right _ a6
  omega
theorem SInv.put {s : St} (h : SInv s) : PutOk s := ⟨by have := h.bytes; omega, fun x hx => (h.win x hx).2.1, fun x hx d hd => (h.texts x hx d hd).2.1⟩
theorem AskC.cmok {c : Cm} (h : AskC c) : CmOk c := ⟨by have := h.url; omega, by have := h.name; omega⟩
end Go.Proofs.YtamimdlaclglkaaGreat

/- StateKeeps. -/
namespace Go.Proofs.YtamimdlaclglkaaGreat
set_option linter.unusedVariables false
set_option linter.unusedSimpArgs false
set_option linter.unnecessarySimpa false
set_option maxRecDepth 100000
open Go.RowKit
/-- the row of a list that is not empty, and one of its cells -/
theorem Fresh.row {T : TypeId} {size n c : Nat} {w0 w : World} {A : Option Addr} (h : Fresh T size w0 w (.slice A n c) n) {k j : Nat} (hk : k < n) (hj : j < size) :
    ∃ g cur, A = some ⟨g, 0, none⟩ ∧ w0.heap.size ≤ g ∧ Blk w g T cur ∧ ∃ u, w.cell? ⟨g, k * size + j, none⟩ = some u := by
  obtain ⟨xs, -, h1 | ⟨g, cap, cur, h1, h2, h3, h4, h5, h6, h7⟩⟩ := h
  · omega
  · simp only [Value.slice.injEq, true_and] at h1
    obtain ⟨rfl, rfl⟩ := h1
    have hB : Blk w g T cur := h3
    have hl : k * size + j < cur.size := by
      have h8 : (k + 1) * size ≤ c * size := Nat.mul_le_mul_right _ (by omega)
      rw [Nat.succ_mul] at h8
      omega
    exact ⟨g, cur, rfl, h2, hB, cur[k * size + j], by rw [hB.cell]; exact Array.getElem?_eq_getElem hl⟩
/-- .. is written: it is a row still -/
theorem Fresh.set_ {T : TypeId} {size n c g : Nat} {w0 w : World} (h : Fresh T size w0 w (.slice (some ⟨g, 0, none⟩) n c) n) (j : Nat) (u : Value) : Fresh T size w0 (w.setCell ⟨g, j, none⟩ u) (.slice (some ⟨g, 0, none⟩) n c) n := by
  obtain ⟨xs, -, h1 | ⟨g', cap, cur, h1, h2, h3, h4, h5, h6, h7⟩⟩ := h
  · cases h1.1
  · simp only [Value.slice.injEq, Option.some.injEq, Addr.mk.injEq, and_true, true_and] at h1
    obtain ⟨rfl, rfl⟩ := h1
    have hB : Blk w g T cur := h3
    have hle : n * size ≤ c * size := Nat.mul_le_mul_right _ h4
    refine ⟨(cur.setIfInBounds j u).toList.take (n * size), by simp; omega, .inr ⟨g, c, cur.setIfInBounds j u, rfl, h2, hB.set_ j u, h4, h5, by simpa using h6, rfl⟩⟩
theorem AskC.cmokK {c : Cm} (h : AskC c) : CmOk c := ⟨by have := h.url; omega, by have := h.name; omega⟩
set_option maxHeartbeats 12800000 in
theorem stateKeeps_walk (x : Value) (b : Bytes) (cs : Array Value) (c : Cm) (w : World) (hx : Bs w x b) (hc : cmE.rep w noneAt cs.toList c) :
    Calls Tryz.prog 7 #[x, .agg cs] w fun e w' => e = .returned (.bool true) ∧ Ext w w' := by
  obtain ⟨Ax, cx, rfl, -, -, -⟩ := id hx
  obtain ⟨rfl, hcw⟩ := cmE_rep hc
  clear hc
  have hC := Blk.new w 37 (ccells c)
  have hxr : Ext w (w.alloc (.cells (ccells c) 37)) := (Ext.rfl' w).alloc' _
  obtain ⟨g3, hg3⟩ : ∃ g, w.heap.size = g := ⟨_, rfl⟩
  rw [hg3] at hC
  go_enter Tryz.func7, Tryz.ntmps7
  go_upto_region 1 with fail
  try rw [hg3]
  clear hg3
  generalize (w.alloc (.cells (ccells c) 37)) = w0 at *
  go_wp2_with fail
  refine (begun20_b w0).mono ?_
  rintro e w1 ⟨rfl, hx1⟩
  replace hx := hx.ext (hxr.trans' hx1)
  replace hxr := hxr.trans' hx1
  replace hC := hC.ext hx1
  have c3 := (hC.cell 3).trans rfl
  have c4 := (hC.cell 4).trans rfl
  by_cases h1 : (100 : Int) < b.length
  · go_wp2_with fail
    go_ret
    exact ⟨rfl, hxr⟩
  by_cases h2 : (60 : Int) < c.name.length
  · go_wp2_with fail
    go_ret
    exact ⟨rfl, hxr⟩
  by_cases h3 : (500 : Int) < c.url.length
  · go_wp2_with fail
    go_ret
    exact ⟨rfl, hxr⟩
  have HB := hide h1
  have HN := hide h2
  have HU := hide h3
  go_wp2_with fail
  refine (asked_b _ b 30 _ hx (by have := HB.out; omega) (by omega)).mono ?_
  rintro e w2 ⟨l, A, ca, hpc, hlen, rfl, hown, hx2⟩
  have HPC := hide hpc
  clear hpc h1 h2 h3 c3 c4
  replace hxr := hxr.trans' hx2
  replace hC := hC.ext hx2
  go_wp2_with fail
  refine (sall_b noneAt z0S _ _ l w2 (fun _ h => h.elim) (z0_rep w2 _) sinv0 hown.sl (fun c hc => (HPC.out c hc).cmokK) (by omega)).mono ?_
  rintro e w3 ⟨s, an, A1, c1, B1, d1, A2, c2, h1, rfl, hrS, -, hx3⟩
  have hi : SInv s := by
    have h := SInv.all l sinv0 (fun c hc => ⟨(HPC.out c hc).wide, (HPC.out c hc).cmokK⟩)
    rw [← h1.out] at h
    exact h
  clear h1 hown HPC
  replace hxr := hxr.trans' hx3
  replace hC := hC.ext hx3
  obtain ⟨g5, hg5⟩ : ∃ g_, w3.heap.size = g_ := ⟨_, rfl⟩
  have hS := Blk.new w3 28 #[.int .u64 s.now, .int .u64 s.count, .slice A1 s.links.length c1, .slice B1 s.sess.length d1]
  rw [hg5] at hS
  have hz := (Ext.rfl' w3).alloc' (.cells #[.int .u64 s.now, .int .u64 s.count, .slice A1 s.links.length c1, .slice B1 s.sess.length d1] 28)
  replace hxr := hxr.trans' hz
  replace hC := hC.ext hz
  replace hrS := stE.ext hrS hz
  go_upto_region 6 with fail
  try rw [hg5]
  generalize (w3.alloc (.cells #[.int .u64 s.now, .int .u64 s.count, .slice A1 s.links.length c1, .slice B1 s.sess.length d1] 28)) = w4 at *
  have s0 := (hS.cell 0).trans rfl
  have s1 := (hS.cell 1).trans rfl
  have s2 := (hS.cell 2).trans rfl
  have s3 := (hS.cell 3).trans rfl
  have HPU := hide (fun (W : World) (hx : Ext w4 W) => stput_b s _ W (stE.ext hrS hx) hi.put (by have := hi.links.len; omega) (by have := hi.len; omega) (fun x hx => by have := (hi.done x hx).2; omega))
  obtain ⟨M, hM⟩ : ∃ M, stB s = M := ⟨_, rfl⟩
  rw [hM] at HPU
  clear hM
  go_wp2_with fail
  refine (HPU.out w4 (Ext.rfl' _)).mono ?_
  rintro e w5 ⟨m, Am, cm, hm, rfl, hnm, hx5⟩
  have hm' := hm.out
  subst hm'
  have hst := run_str (P := Tryz.prog) hnm.bs Tryz.underlying22 Tryz.underlying5 Tryz.underlying9
  clear s0 s1 s2 s3 hm
  replace hxr := hxr.trans' hx5
  replace hC := hC.ext hx5
  replace hS := hS.ext hx5
  have hx45 := hx5
  replace hrS := stE.ext hrS hx5
  have s0 := (hS.cell 0).trans rfl
  have s1 := (hS.cell 1).trans rfl
  have s2 := (hS.cell 2).trans rfl
  have s3 := (hS.cell 3).trans rfl
  have c0 := (hC.cell 0).trans rfl
  have c1_ := (hC.cell 1).trans rfl
  have c2_ := (hC.cell 2).trans rfl
  have c3 := (hC.cell 3).trans rfl
  have c4 := (hC.cell 4).trans rfl
  have c5 := (hC.cell 5).trans rfl
  go_wp2_with fail
  clear hst hnm
  refine (sapplyO_b noneAt s _ c w5 (fun _ h => h.elim) hrS hi hcw (by have := HU.out; omega) (by have := HN.out; omega)).mono ?_
  rintro e w7 ⟨t, a, At, ct, Au, cu, hta, rfl, hrT, hFL, hFS, hx7⟩
  clear hta hrT s0 s1 s2 s3 c0 c1_ c2_ c3 c4 c5
  obtain ⟨hT, hA9, hz⟩ := two_al w7 28 33 #[.int .u64 t.now, .int .u64 t.count, .slice At t.links.length ct, .slice Au t.sess.length cu] #[.int .i64 a.err, str a.text]
  obtain ⟨g8, hg8⟩ : ∃ g_, w7.heap.size = g_ := ⟨_, rfl⟩
  rw [hg8] at hT hA9
  have hb8 : w5.heap.size ≤ g8 := by have := hx7.size; omega
  go_upto_region 8 with fail
  try rw [hg8]
  replace hFL := hFL.ext hz
  replace hFS := hFS.ext hz
  have hx8 := hx7.trans' hz
  clear hg8 hz hx7 hA9
  generalize ((w7.alloc (.cells #[.int .u64 t.now, .int .u64 t.count, .slice At t.links.length ct, .slice Au t.sess.length cu] 28)).alloc (.cells #[.int .i64 a.err, str a.text] 33)) = w8 at *
  have hS8 := hS.ext hx8
  have s0 := (hS8.cell 0).trans rfl
  have s1 := (hS8.cell 1).trans rfl
  have s2 := (hS8.cell 2).trans rfl
  have s3 := (hS8.cell 3).trans rfl
  go_wp2_with fail
  refine (HPU.out w8 (hx45.trans' hx8)).mono ?_
  rintro e w9 ⟨m2, Am2, cm2, hm2, rfl, hnm2, hx9⟩
  have hm2' := hm2.out
  subst hm2'
  have hst := run_str (P := Tryz.prog) hnm2.bs Tryz.underlying22 Tryz.underlying5 Tryz.underlying9
  clear s0 s1 s2 s3 hS8 hm2
  replace hFL := hFL.ext hx9
  replace hFS := hFS.ext hx9
  replace hT := hT.ext hx9
  replace hx8 := hx8.trans' hx9
  have hnL : (t.links.length : Int) ≤ 9223372036854775807 := by
    obtain ⟨_, -, h1 | ⟨_, _, _, -, -, -, h4, h5, -, -⟩⟩ := hFL
    · omega
    · unfold maxLen at h5; omega
  have hnS : (t.sess.length : Int) ≤ 9223372036854775807 := by
    obtain ⟨_, -, h1 | ⟨_, _, _, -, -, -, h4, h5, -, -⟩⟩ := hFS
    · omega
    · unfold maxLen at h5; omega
  clear hx9 hnm2
  go_wp2_with fail
  clear hst
  go_loopw [10] (fun i wr => ∃ k : Nat, k ≤ t.links.length ∧ i = .int .i64 k ∧ Blk wr g8 28 #[.int .u64 t.now, .int .u64 t.count, .slice At t.links.length ct, .slice Au t.sess.length cu] ∧ Fresh 53 4 w5 wr (.slice At t.links.length ct) t.links.length ∧ Fresh 56 3 w5 wr (.slice Au t.sess.length cu) t.sess.length ∧ Ext w5 wr) (fun i _ => (t.links.length - intOf i).toNat)
  case atStart => exact ⟨0, by omega, rfl, hT, hFL, hFS, hx8⟩
  case round =>
    clear hT hFL hFS hx8
    obtain ⟨k, hk, rfl, hT, hFL, hFS, hx8⟩ := hrel
    have t2 := (hT.cell 2).trans rfl
    by_cases hlt : (k : Int) < t.links.length
    · obtain ⟨gL, cur, rfl, hgL, hBL, u, hu⟩ := hFL.row (k := k) (j := 1) (by omega) (by decide)
      have hfz := hBL.frozen (k * 4 + 1)
      have hb1 : (0 : Int) ≤ k := by omega
      have hne : gL ≠ g8 := Blk.ne_ hBL hT (by decide)
      have HLT := hide hlt
      have hcg : Chg [gL] wr (wr.setCell ⟨gL, k * 4 + 1, none⟩ (str [115, 112, 111, 105, 108, 116])) := (Chg.refl _ _).set (by simp) _
      have hFL2 := hFL.set_ (k * 4 + 1) (str [115, 112, 111, 105, 108, 116])
      have hFS2 := hFS.chg hcg (fun j hj hm => by
        obtain rfl := List.mem_singleton.1 hm
        obtain ⟨xs, h1⟩ := hFS
        exact own_blk_ne h1 hBL (by decide) hj)
      have hT2 := hT.chg hcg (by simp; exact fun h => hne h.symm)
      have hx2 := hx8.then_ hcg (by simpa using hgL)
      go_wp2_with fail
      go_roundw
      case rel => exact ⟨k + 1, by have := HLT.out; omega, by go_num, hT2, hFL2, hFS2, hx2⟩
      case measure => have := HLT.out; simp [intOf]; omega
    · go_wp2_with fail
      clear t2
      go_loopw [11] (fun i wr => ∃ k : Nat, k ≤ t.sess.length ∧ i = .int .i64 k ∧ Blk wr g8 28 #[.int .u64 t.now, .int .u64 t.count, .slice At t.links.length ct, .slice Au t.sess.length cu] ∧ Fresh 56 3 w5 wr (.slice Au t.sess.length cu) t.sess.length ∧ Ext w5 wr) (fun i _ => (t.sess.length - intOf i).toNat)
      case atStart => exact ⟨0, by omega, rfl, hT, hFS, hx8⟩
      case round =>
        clear hT hFL hFS hx8
        obtain ⟨q, hq, rfl, hT, hFS, hx8⟩ := hrel
        have t3 := (hT.cell 3).trans rfl
        by_cases hlt2 : (q : Int) < t.sess.length
        · obtain ⟨gS, cur, rfl, hgS, hBS, u, hu⟩ := hFS.row (k := q) (j := 1) (by omega) (by decide)
          have hfz := hBS.frozen (q * 3 + 1)
          have hb1 : (0 : Int) ≤ q := by omega
          have hne : gS ≠ g8 := Blk.ne_ hBS hT (by decide)
          have HLT := hide hlt2
          have hcg : Chg [gS] wr (wr.setCell ⟨gS, q * 3 + 1, none⟩ (.int .u64 99)) := (Chg.refl _ _).set (by simp) _
          have hFS2 := hFS.set_ (q * 3 + 1) (.int .u64 99)
          have hT2 := hT.chg hcg (by simp; exact fun h => hne h.symm)
          have hx2 := hx8.then_ hcg (by simpa using hgS)
          go_wp2_with fail
          go_roundw
          case rel => exact ⟨q + 1, by have := HLT.out; omega, by go_num, hT2, hFS2, hx2⟩
          case measure => have := HLT.out; simp [intOf]; omega
        · have hS8 := hS.ext hx8
          have s0 := (hS8.cell 0).trans rfl
          have s1 := (hS8.cell 1).trans rfl
          have s2 := (hS8.cell 2).trans rfl
          have s3 := (hS8.cell 3).trans rfl
          go_wp2_with fail
          refine (HPU.out wr (hx45.trans' hx8)).mono ?_
          rintro e w12 ⟨m3, Am3, cm3, hm3, rfl, hnm3, hx12⟩
          have hm3' := hm3.out
          subst hm3'
          have hst := run_str (P := Tryz.prog) hnm3.bs Tryz.underlying22 Tryz.underlying5 Tryz.underlying9
          go_wp2_with fail
          go_ret
          exact ⟨rfl, (hxr.trans' hx8).trans' hx12⟩
end Go.Proofs.YtamimdlaclglkaaGreat

/- The statement 'StateKeepsSaid': whatever is handed in, the law answers true, and what was handed in is as it was. -/
namespace Go.Proofs.YtamimdlaclglkaaGreat.stateKeeps
set_option linter.unusedVariables false
set_option linter.unusedSimpArgs false
set_option linter.unnecessarySimpa false
set_option maxRecDepth 100000
open Go.ChangeShapes Go.WideShapes Go.ChangeAt Go.RowKit
open Go.ChangeMaps (open_string shut_string)

set_option maxRecDepth 100000 in
set_option maxHeartbeats 2000000 in
theorem lifted (os : Os) (started : os.Started) (H : Type) (enc : TypeId × Value → H) :
    ReturnsInHanded {} Tryz.checked os 7 .any (Rows.stateKeepsSpec.pre6 enc Tryz.prog Tryz.f7 Rows.stateKeepsRow.domain false) (Rows.stateKeepsSpec.post enc Tryz.prog Tryz.f7 false true false false) := by
  refine returnsInHanded_of_change (C := Tryz.checked) own started (by kernel_rfl) Tryz.func7
    (ChangeSpec.witness6 (enc := enc) (C := Tryz.checked) false ⟨#[], #[.slice none 0 0, .agg #[.int .i64 0, .int .i64 0, .int .u64 0, .string ByteArray.empty, .string ByteArray.empty, .int .u64 0]], []⟩ 8 (by kernel_rfl) (by kernel_rfl) (by kernel_rfl) (by kernel_rfl)) ?_
  intro W base args ds gs before hval0 hW hcnd _
  have hval : ∀ (j : Nat) t v, Tryz.f7.params[j]? = some t → args[j]? = some v → Value.okWide Tryz.prog W .any base t v := hval0
  have hW' := hW
  obtain ⟨p, q, hA0, hV, rfl, hfz, hnd⟩ := hW
  have hA : DataW.TrodAll enc Tryz.prog W 0 (fun _ => true) true Tryz.f7.params.toList args.toList ds p := hA0
  rw [Tryz.params7] at hA hval
  obtain ⟨v0, vs0, d0, ds0, p0, q0, hargs, rfl, rfl, h0, r0⟩ := trodAll_cons hA
  obtain ⟨v1, vs1, d1, ds1, p1, q1, rfl, rfl, rfl, h1, r1⟩ := trodAll_cons r0
  obtain ⟨rfl, rfl, rfl⟩ := trodAll_nil r1
  obtain rfl : args = #[v0, v1] := by cases args; simp_all
  obtain ⟨rfl, rfl⟩ := trodVars_none hV
  obtain ⟨a0, len0, cap0, rfl⟩ := okWide_slice Tryz.underlying22 (hval 0 22 v0 rfl rfl)
  have k0 := h0
  have lt0 : ∀ x ∈ p0, x.block < W.heap.size := by obtain ⟨m, hm⟩ := k0; exact DataW.trod_lt m _ _ _ hm
  obtain ⟨b0, hb0⟩ : ∃ b, Bs W (.slice a0 len0 cap0) b := by
    obtain ⟨fuel, hf⟩ := h0
    rcases open_ints Tryz.underlying22 Tryz.underlying5 (by kernel_rfl) hf with ⟨hcs, _⟩ | ⟨x, l, c, zs, hcs, _, hl, hm, hz, _, hcell, hwz⟩
    · simp [Value.cells] at hcs
      obtain ⟨rfl, rfl, rfl⟩ := hcs
      exact ⟨[], bs_none⟩
    · simp [Value.cells] at hcs
      obtain ⟨rfl, rfl, rfl⟩ := hcs
      exact bs_of_ints hl hm (by simpa using hz) hcell hwz
  have k1 := h1
  have lt1 : ∀ x ∈ p1, x.block < W.heap.size := by obtain ⟨m, hm⟩ := k1; exact DataW.trod_lt m _ _ _ hm
  obtain ⟨cs1, rfl, hsz1⟩ := okWide_struct Tryz.underlying37 (hval 1 37 v1 rfl rfl)
  obtain ⟨b1, hb1⟩ : ∃ b, (cmE).rep W noneAt cs1.toList b := by
    obtain ⟨fuel, hf⟩ := h1
    exact cmE_opens _ enc W fuel _ _ hf
  clear hA0 hval0
  refine (stateKeeps_walk _ b0 cs1 b1 W hb0 hb1).mono fun e W' ⟨he, bel⟩ => ?_
  subst he
  exact ⟨_, rfl, _, _, _, [], _, [], hW', trodAll_mk1 (shut_bool Tryz.underlying4 _), (trodAll_cons_mk (Below.trod laidOut (by kernel_rfl) (of_decide_eq_true (by kernel_rfl)) k0 bel lt0) (trodAll_cons_mk (Below.trod laidOut (by kernel_rfl) (of_decide_eq_true (by kernel_rfl)) k1 bel lt1) trodAll_mk0)), rfl, bel.frame _, fun h => by cases h⟩

theorem over : Rows.stateKeepsRow.holds Tryz.pinned (OpenSpec.ofChange Rows.stateKeepsSpec) :=
  OpenClaim.holds_of_wide 7 Tryz.f7 rfl rfl rfl rfl rfl rfl rfl ⟨rfl, rfl, rfl, rfl, rfl⟩ rfl rfl rfl rfl rfl (by kernel_rfl) Tryz.func7 (by kernel_rfl)
    (of_decide_eq_true (by kernel_rfl)) (by unfold Func.isWrapper; first | (rw [if_pos (by decide +kernel)]; kernel_rfl) | (rw [if_neg (by decide +kernel)]; exact ⟨rfl, rfl⟩))
    (fun os started H enc _ => lifted os started H enc)

/-- THE STATEMENT -/
theorem proved : Rows.StateKeepsSaid := over
#print axioms proved
end Go.Proofs.YtamimdlaclglkaaGreat.stateKeeps

