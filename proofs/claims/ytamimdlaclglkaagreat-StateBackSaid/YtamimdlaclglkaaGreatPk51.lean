import Derived.Test.YtamimdlaclglkaaGreatPk42
/- A state's lists do not lie in a block of other cells than theirs. -/
namespace Go.Proofs.YtamimdlaclglkaaGreat
set_option linter.unusedVariables false
set_option linter.unusedSimpArgs false
set_option linter.unnecessarySimpa false
set_option maxRecDepth 100000
open Go.RowKit
/-- no Link, Session or Done begins in these cells -/
def NoS (cs : Array Value) : Prop := ∀ j, (∀ a b, cs[j]? = some (str a) → cs[j + 1]? = some (str b) → False) ∧ (∀ a b : Int, cs[j]? = some (.int .i64 a) → cs[j + 1]? = some (.int .u64 b) → False) ∧ (∀ a b : Int, cs[j]? = some (.int .u64 a) → cs[j + 1]? = some (.int .i64 b) → False)
theorem Sl.apartK {α : Type} {E : Enc α} {w : World} {X : Avoid} {v : Value} {l : List α} (h : Enc.Sl E w X v l) {g : Nat} {T : TypeId} {cs : Array Value} (hB : Blk w g T cs)
    (hk : ∀ {cs' a}, E.rep w X cs' a → ∃ u v, cs'[0]? = some u ∧ cs'[1]? = some v ∧ ∀ j, cs[j]? = some u → cs[j + 1]? = some v → False)
    (hw : ∀ {cs' a}, E.rep w X cs' a → E.rep w (fun k => X k ∨ k = g) cs' a) : Enc.Sl E w (fun k => X k ∨ k = g) v l := by
  obtain ⟨A', c', css, e, h1, h2, h3, h4, h5⟩ := id h
  refine ⟨A', c', css, e, h1, h2, h3, fun ad he h0 hx => hx.elim (h4 ad he h0) fun hg => ?_, ⟨h5.1, fun k cs a e1 e2 => hw (h5.2 k cs a e1 e2)⟩⟩
  subst e
  obtain ⟨ad2, cs', hA, hrep, -, hcell⟩ := h.at_ (k := 0) h0
  obtain ⟨u, v, hu, hv, hno⟩ := hk hrep
  rw [he] at hA
  obtain rfl := Option.some.inj hA
  subst hg
  have p0 := Enc.cell0 hcell hu
  have p1 := Enc.cellS hcell 0 hv
  simp only [Nat.zero_mul] at p0 p1
  have e0 : ad.add 0 = ad := by unfold Addr.add; simp
  rw [e0] at p0 p1
  have h7 : ∀ (a : Addr) v, a.block = ad.block → w.cell? a = some v → cs[a.off]? = some v := fun a v ha hv => by
    unfold World.cell? at hv
    unfold Blk at hB
    rw [ha, hB] at hv
    simp only at hv
    split at hv
    · cases hv
    · exact hv
  exact hno ad.off (h7 _ _ rfl p0) (h7 ⟨ad.block, ad.off + 1, none⟩ _ rfl p1)
theorem st_apartS {w : World} {X : Avoid} {x y u v : Value} {s : St} (h : stE.rep w X [x, y, u, v] s) {g : Nat} {T : TypeId} {cs : Array Value} (hB : Blk w g T cs) (hn : NoS cs) : stE.rep w (fun k => X k ∨ k = g) [x, y, u, v] s := by
  obtain ⟨vl, vs, hcs, h1, h2, h3, h4⟩ := st_rep.1 h
  simp only [stcells, List.cons.injEq, and_true] at hcs
  obtain ⟨rfl, rfl, rfl, rfl⟩ := hcs
  refine st_rep.2 ⟨_, _, rfl, h1, h2, ?_, ?_⟩
  · exact Sl.apartK h3 hB (fun hr => by
      obtain ⟨rfl, -⟩ := ln_rep.1 hr
      exact ⟨_, _, rfl, rfl, fun j => (hn j).1 _ _⟩) ln_flatO
  · exact Sl.apartK h4 hB (fun hr => by
      obtain ⟨v, rfl, -⟩ := se_rep.1 hr
      exact ⟨_, _, rfl, rfl, fun j => (hn j).2.1 _ _⟩) (fun hr => by
      obtain ⟨v, rfl, r1, r2, r3⟩ := se_rep.1 hr
      exact se_rep.2 ⟨v, rfl, r1, r2, Sl.apartK r3 hB (fun hr => by
        obtain ⟨rfl, -⟩ := dn_rep.1 hr
        exact ⟨_, _, rfl, rfl, fun j => (hn j).2.2 _ _⟩) (fun hr => dn_rep.2 (dn_rep.1 hr))⟩)
theorem nos4 : NoS #[.int .u64 0, .int .u64 0, .slice none 0 0, .slice none 0 0] := by
  intro j
  refine ⟨fun a b h h' => ?_, fun a b h h' => ?_, fun a b h h' => ?_⟩ <;> (rcases j with _ | _ | _ | _ | j <;> simp [str] at h h')
theorem nos4' (a b : Int) (A B : Option Addr) (n c m d : Nat) : NoS #[.int .u64 a, .int .u64 b, .slice A n c, .slice B m d] := by
  intro j
  refine ⟨fun a b h h' => ?_, fun a b h h' => ?_, fun a b h h' => ?_⟩ <;> (rcases j with _ | _ | _ | _ | j <;> simp [str] at h h')
theorem nos2 (a : Int) (b : Bytes) : NoS #[.int .i64 a, str b] := by
  intro j
  refine ⟨fun a b h h' => ?_, fun a b h h' => ?_, fun a b h h' => ?_⟩ <;> (rcases j with _ | _ | j <;> simp [str] at h h')
end Go.Proofs.YtamimdlaclglkaaGreat

