import Derived.Test.YtamimdlaclglkaaPk44
import Derived.Test.YtamimdlaclglkaaPk45
/- States, in plain Lean: a command is done once. -/
namespace Go.Proofs.Ytamimdlaclglkaa
set_option linter.unusedVariables false
set_option linter.unusedSimpArgs false
set_option linter.unnecessarySimpa false
set_option maxRecDepth 100000
open Go.RowKit
def sapply (s : St) (c : Cm) : St × An :=
  if c.kind = 0 then (s, ⟨0, []⟩)
  else if (ask s c.client c.seq).2 = true then (s, (ask s c.client c.seq).1)
  else (keep (ldo s c).1 c.client c.seq (ldo s c).2, (ldo s c).2)
def sall (s : St) : List Cm → St × List An
  | [] => (s, [])
  | c :: l => ((sall (sapply s c).1 l).1, (sapply s c).2 :: (sall (sapply s c).1 l).2)
theorem sall_snoc (s : St) (c : Cm) : ∀ l : List Cm, ∀ s, sall s (l ++ [c]) = ((sapply (sall s l).1 c).1, (sall s l).2 ++ [(sapply (sall s l).1 c).2])
  | [], s => rfl
  | d :: l, s => by
    rw [List.cons_append]
    unfold sall
    rw [sall_snoc s c l]
    rfl
/-- states that commands leave -/
structure SInv (s : St) : Prop where
  links : LInv s
  rise : RiseS s.sess
  win : ∀ x ∈ s.sess, InWin x ∧ 0 ≤ x.client ∧ x.client < 4 ∧ 0 ≤ x.high ∧ x.high ≤ 18446744073709551615
  texts : ∀ x ∈ s.sess, ∀ d ∈ x.done, d.an.text.length ≤ 1000000 ∧ 0 ≤ d.an.err ∧ d.an.err ≤ 16
theorem sinv0 : SInv ⟨0, 0, [], []⟩ := ⟨linv0, List.Pairwise.nil, by simp, by simp⟩
theorem SInv.len {s : St} (h : SInv s) : s.sess.length ≤ 4 := by
  rcases Nat.lt_or_ge 4 s.sess.length with h1 | h1
  · have g : ∀ (i : Nat) (hi : i < s.sess.length), s.sess[i]? = some s.sess[i] := fun i hi => List.getElem?_eq_getElem hi
    have e1 := pw_at h.rise (show 0 < 1 by decide) (g 0 (by omega)) (g 1 (by omega))
    have e2 := pw_at h.rise (show 1 < 2 by decide) (g 1 (by omega)) (g 2 (by omega))
    have e3 := pw_at h.rise (show 2 < 3 by decide) (g 2 (by omega)) (g 3 (by omega))
    have e4 := pw_at h.rise (show 3 < 4 by decide) (g 3 (by omega)) (g 4 (by omega))
    have f0 := (h.win s.sess[0] (List.getElem_mem _)).2.1
    have f4 := (h.win s.sess[4] (List.getElem_mem _)).2.2.1
    omega
  · exact h1
theorem SInv.done {s : St} (h : SInv s) : ∀ x ∈ s.sess, RiseD x.done ∧ x.done.length ≤ 4 := fun x hx => ⟨(h.win x hx).1.1, (h.win x hx).1.len⟩
theorem LInv.sess {s : St} (h : LInv s) (l : List Se) : LInv ⟨s.now, s.count, s.links, l⟩ := ⟨h.rise, h.names, h.urls, h.tills, h.len, h.now0, h.now1, h.count0, h.count1⟩
theorem ldo_an {s : St} (h : LInv s) {c : Cm} (hn : c.name.length ≤ 1000000) : (ldo s c).2.text.length ≤ 1000000 ∧ 0 ≤ (ldo s c).2.err ∧ (ldo s c).2.err ≤ 16 := by
  have hm : 0 ≤ lmay c s.now ∧ lmay c s.now ≤ 16 := by unfold lmay; repeat' split <;> omega
  have hx : ∀ x ∈ s.links, x.name.length ≤ 1000000 ∧ x.url.length ≤ 1000000 := fun x hx => ⟨Nat.le_trans (h.name_len hx) (by decide), Nat.le_trans (h.urls x hx) (by decide)⟩
  unfold ldo ldoW
  split
  · unfold ltime; split <;> simp
  · split
    · unfold lmakeW
      split
      · simp; omega
      · split
        · rename_i x hf
          exact ⟨(hx x (find_map_eq hf).1).1, by simp, by simp⟩
        · split
          · simp
          · simp [code3_len]
    · split
      · unfold lnameW
        split
        · simp
        · split
          · simp; omega
          · split
            · split
              · exact ⟨hn, by simp, by simp⟩
              · simp
            · split
              · simp
              · exact ⟨hn, by simp, by simp⟩
      · split
        · unfold lfindW
          split
          · rename_i x hf
            exact ⟨(hx x (lfind_mem hf)).2, by simp, by simp⟩
          · simp
        · simp
theorem ask_new {s : St} {c q : Int} (h : (ask s c q).2 = false) : 0 ≤ c ∧ c < 4 ∧ q ≠ 0 ∧ stale q (sown s.sess c).high = false ∧ kept (sown s.sess c).done q = none := by
  unfold ask at h
  split at h
  · cases h
  · rename_i h0
    split at h
    · cases h
    · rename_i hk
      split at h
      · cases h
      · rename_i hs
        exact ⟨by omega, by omega, by omega, by simpa using hs, hk⟩
theorem sown_mem {l : List Se} {c : Int} {x : Se} (h : x = sown l c) : x ∈ l ∨ x = ⟨c, 0, []⟩ := by
  unfold sown at h
  split at h
  · rename_i s hs
    split at h
    · exact .inl (h ▸ List.mem_of_getElem? hs)
    · exact .inr h
  · exact .inr h
theorem SInv.step {s : St} (h : SInv s) {c : Cm} (ht : 0 ≤ c.till) (hq : 0 ≤ c.seq ∧ c.seq ≤ 18446744073709551615) (hn : c.name.length ≤ 1000000) : SInv (sapply s c).1 := by
  unfold sapply
  split
  · exact h
  · split
    · exact h
    · rename_i ha
      obtain ⟨h0, h4, hq0, hst, -⟩ := ask_new (by simpa using ha)
      have hs : (ldo s c).1.sess = s.sess := ldo_sess s c
      have han := ldo_an h.links (c := c) hn
      refine ⟨?_, ?_, ?_, ?_⟩
      · exact (h.links.step ht).sess _
      · show RiseS (swith (ldo s c).1.sess _)
        rw [hs]
        exact swith_rise h.rise _
      · intro x hx
        have hx' : x ∈ swith s.sess (skeep (sown s.sess c.client) c.seq (ldo s c).2) := by rw [← hs]; exact hx
        rcases swith_mem hx' with rfl | hx'
        · have hc := sown_client s.sess c.client
          have hh : 0 ≤ (sown s.sess c.client).high ∧ (sown s.sess c.client).high ≤ 18446744073709551615 := by
            rcases sown_mem (l := s.sess) (c := c.client) rfl with h1 | h1
            · exact (h.win _ h1).2.2.2
            · rw [h1]; simp
          refine ⟨skeep_win (sown_win (fun x hx => (h.win x hx).1) _) (by omega) hst, ?_, ?_, ?_, ?_⟩
          · show 0 ≤ (sown s.sess c.client).client; omega
          · show (sown s.sess c.client).client < 4; omega
          · show 0 ≤ max _ _; omega
          · show max _ _ ≤ _; omega
        · exact h.win x hx'
      · intro x hx d hd
        have hx' : x ∈ swith s.sess (skeep (sown s.sess c.client) c.seq (ldo s c).2) := by rw [← hs]; exact hx
        rcases swith_mem hx' with rfl | hx'
        · rcases dput_mem hd with rfl | hd
          · exact han
          · have hd' := (List.mem_filter.1 hd).1
            rcases sown_mem (l := s.sess) (c := c.client) rfl with h1 | h1
            · exact h.texts _ h1 d hd'
            · rw [h1] at hd'; cases hd'
        · exact h.texts x hx' d hd
/-- asked again it answers the same and changes nothing -/
theorem sapply_again {s : St} (h : SInv s) {c : Cm} (hq : 0 ≤ c.seq) : sapply (sapply s c).1 c = ((sapply s c).1, (sapply s c).2) := by
  by_cases hk : c.kind = 0
  · have e : ∀ t, sapply t c = (t, ⟨0, []⟩) := fun t => by unfold sapply; rw [if_pos hk]
    rw [e s, e s]
  · by_cases ha : (ask s c.client c.seq).2 = true
    · have e : sapply s c = (s, (ask s c.client c.seq).1) := by unfold sapply; rw [if_neg hk, if_pos ha]
      rw [e]
      exact e
    · have e : sapply s c = (keep (ldo s c).1 c.client c.seq (ldo s c).2, (ldo s c).2) := by unfold sapply; rw [if_neg hk, if_neg ha]
      obtain ⟨h0, h4, hq0, hst, -⟩ := ask_new (by simpa using ha)
      have hs : (ldo s c).1.sess = s.sess := ldo_sess s c
      have hk2 := ask_keep (ldo s c).1 (by rw [hs]; exact h.rise) c.client c.seq (ldo s c).2 c.client c.seq
      rw [e]
      have : ask (keep (ldo s c).1 c.client c.seq (ldo s c).2) c.client c.seq = ((ldo s c).2, true) := by
        rw [hk2, if_neg (by omega), if_pos rfl, if_pos rfl]
      unfold sapply
      rw [if_neg hk, this]
      simp
end Go.Proofs.Ytamimdlaclglkaa

