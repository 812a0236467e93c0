/- A part of the proof of 'StoreAll'. -/
import Derived.Test.YtlblgopfdadalaaS24
import Derived.Test.YtlblgopfdadalaaS22
import Derived.Test.YtlblgopfdadalaaS26
import Derived.Test.YtlblgopfdadalaaS29
import Derived.Test.YtlblgopfdadalaaS31
namespace Go.Proofs.Ytlblgopfdadalaa
set_option linter.unusedVariables false
set_option linter.unusedSimpArgs false
set_option linter.unnecessarySimpa false
set_option maxRecDepth 100000
open Go.RowKit
structure RSoAt (w : World) (gs gd : Nat) (k : Kp) (As : Option Addr) (cs : Nat) (Ae : Option Addr) (ce : Nat) : Prop where
  blk : Blk w gs 68 #[.pointer (some ⟨gd, 0, none⟩), .int .u64 k.hard.term, .int .i64 k.hard.vote, .int .u64 k.snap.index, .int .u64 k.snap.term, .slice As k.snap.state.length cs, .slice Ae k.ents.length ce]
  bs : Enc.BsX w (fun j => j = gs ∨ j = gd) (.slice As k.snap.state.length cs) k.snap.state
  es : Enc.Sl enE w (fun j => j = gs ∨ j = gd) (.slice Ae k.ents.length ce) k.ents
theorem RSoAt.ext {w w' : World} {gs gd : Nat} {k : Kp} {As Ae : Option Addr} {cs ce : Nat} (h : RSoAt w gs gd k As cs Ae ce) (hx : Ext w w') : RSoAt w' gs gd k As cs Ae ce := ⟨h.blk.ext hx, h.bs.ext hx, h.es.ext hx⟩
theorem RSoAt.chg {w w' : World} {gs gd : Nat} {k : Kp} {As Ae : Option Addr} {cs ce : Nat} (h : RSoAt w gs gd k As cs Ae ce) (hc : Chg [gd] w w') (hne : gs ≠ gd) : RSoAt w' gs gd k As cs Ae ce :=
  ⟨h.blk.chg hc (by simpa using hne), h.bs.chg hc (fun j hj _ => .inr (List.mem_singleton.1 hj)), h.es.chg hc (fun j hj _ => .inr (List.mem_singleton.1 hj))⟩
/-- a store of the document's, and its disk -/
structure RStD (w : World) (gs gd : Nat) (k : Kp) (d : Dk) (v : Value) (As : Option Addr) (cs : Nat) (Ae : Option Addr) (ce : Nat) : Prop where
  disk : RefAt w gd v d
  so : RSoAt w gs gd k As cs Ae ce
  ne : gs ≠ gd
  own : ∀ j, v.ownBlock = some j → j ≠ gs
  wide : k.wide
  lt : ∀ j, v.ownBlock = some j → j < w.heap.size
theorem RStD.ext {w w' : World} {gs gd : Nat} {k : Kp} {d : Dk} {v : Value} {As Ae : Option Addr} {cs ce : Nat} (h : RStD w gs gd k d v As cs Ae ce) (hx : Ext w w') : RStD w' gs gd k d v As cs Ae ce :=
  ⟨h.disk.ext hx, h.so.ext hx, h.ne, h.own, h.wide, fun j hj => Nat.lt_of_lt_of_le (h.lt j hj) hx.size⟩
/-- the disk is turned -/
theorem RStD.to {w w' : World} {gs gd : Nat} {k : Kp} {d d' : Dk} {v : Value} {As Ae : Option Addr} {cs ce : Nat} (h : RStD w gs gd k d v As cs Ae ce) (hd : RefTo w w' gd v d') : ∃ v', RStD w' gs gd k d' v' As cs Ae ce ∧ Chg [gd] w w' := by
  obtain ⟨v', h1, h2, h3⟩ := hd
  have hsz := h2.size
  have hgs := h.so.blk.lt
  refine ⟨v', ⟨h1, h.so.chg h2 h.ne, h.ne, fun j hj => ?_, h.wide, fun j hj => ?_⟩, h2⟩
  · rcases h3 j hj with h4 | h4
    · exact h.own j h4
    · omega
  · rcases h3 j hj with h4 | h4
    · have := h.lt j h4; omega
    · exact h4.2
def rsaveD (d : Dk) (l : List Rec) (next : Kp) : Dk × Int :=
  if l.any isSnap = true then d.rop (lput (krecs next)).length (Dk.repl (lput (krecs next))) id
  else if (d.rop (d.b.length + (lput l).length) (Dk.app (lput l)) (Dk.app (lput l))).2 = 0 then (d.rop (d.b.length + (lput l).length) (Dk.app (lput l)) (Dk.app (lput l))).1.rop 0 Dk.last id
  else d.rop (d.b.length + (lput l).length) (Dk.app (lput l)) (Dk.app (lput l))
def rsave (d : Dk) (k : Kp) (l : List Rec) : Dk × Kp × Int :=
  if l = [] then (d, k, 0) else ((rsaveD d l (kfold k l)).1, if (rsaveD d l (kfold k l)).2 = 0 then kfold k l else k, (rsaveD d l (kfold k l)).2)
def ropenD (d : Dk) : Dk × Int := if (scan d.b).2 < d.b.length then d.rop (lput (scan d.b).1).length (Dk.repl (lput (scan d.b).1)) id else (d, 0)
/-- both stores do the same -/
theorem Eqv.saveD {d r : Dk} (h : Eqv d r) (l : List Rec) (nx : Kp) : (saveD d l nx).2 = (rsaveD r l nx).2 ∧ Eqv (saveD d l nx).1 (rsaveD r l nx).1 := by
  unfold Go.Proofs.Ytlblgopfdadalaa.saveD rsaveD
  split
  · exact h.opId _ _ fun d r h => h.repl _
  · have e : (d.b.length : Int) + (lput l).length = r.b.length + (lput l).length := by rw [h.b]
    rw [e]
    have h1 := h.opApp (lput l) (r.b.length + (lput l).length)
    rw [h1.1]
    split
    · exact h1.2.opId _ _ fun d r h => h.last
    · exact h1
theorem Eqv.save {d r : Dk} (h : Eqv d r) (k : Kp) (l : List Rec) : (save d k l).2 = (rsave r k l).2 ∧ Eqv (save d k l).1 (rsave r k l).1 := by
  unfold Go.Proofs.Ytlblgopfdadalaa.save rsave
  split
  · exact ⟨rfl, h⟩
  · have h1 := h.saveD l (kfold k l)
    exact ⟨by simp only; rw [h1.1], h1.2⟩
theorem Eqv.open_ {d r : Dk} (h : Eqv d r) : (openD d).2 = (ropenD r).2 ∧ Eqv (openD d).1 (ropenD r).1 := by
  unfold openD ropenD
  rw [h.b]
  split
  · exact h.opId _ _ fun d r h => h.repl _
  · exact ⟨rfl, h⟩
/-- what the document's Save leaves -/
def RetSaveR (X : Avoid) (w w' : World) (e : Ending) (gs gd : Nat) (r : Dk × Kp × Int) : Prop :=
  ∃ (v : Value) (As : Option Addr) (cs : Nat) (Ae : Option Addr) (ce : Nat), e = .returned (.int .i64 r.2.2) ∧ RStD w' gs gd r.2.1 r.1 v As cs Ae ce ∧ Chg [gs, gd] w w' ∧ Enc.BsX w' X (.slice As r.2.1.snap.state.length cs) r.2.1.snap.state ∧
    Enc.Sl enE w' X (.slice Ae r.2.1.ents.length ce) r.2.1.ents ∧ ∀ j, v.ownBlock = some j → ¬ X j
end Go.Proofs.Ytlblgopfdadalaa
