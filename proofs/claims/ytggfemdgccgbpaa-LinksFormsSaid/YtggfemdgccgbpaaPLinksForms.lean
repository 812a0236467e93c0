import Derived.Test.YtggfemdgccgbpaaPk36
import Derived.RegionTactic
import Derived.Test.YtggfemdgccgbpaaPk1
/- LinksForms. -/
namespace Go.Proofs.Ytggfemdgccgbpaa
set_option linter.unusedVariables false
set_option linter.unusedSimpArgs false
set_option linter.unnecessarySimpa false
set_option maxRecDepth 100000
open Go.RowKit
def qCm : List Cm := [⟨4, 0, 0, [], [], 10⟩, ⟨1, 0, 0, [], [], 0⟩, ⟨1, 0, 0, [], [117], 10⟩, ⟨1, 0, 0, [], [117], 11⟩, ⟨1, 0, 0, [], [117], 0⟩, ⟨1, 0, 0, [], [117], 11⟩, ⟨2, 0, 0, [97, 98, 99], [117], 0⟩, ⟨2, 0, 0, [97, 98, 99, 100], [], 0⟩, ⟨2, 0, 0, [97, 98, 99, 100], [117], 12⟩, ⟨2, 0, 0, [97, 98, 99, 100], [117], 0⟩, ⟨2, 0, 0, [97, 98, 99, 100], [117], 12⟩, ⟨3, 0, 0, [97, 98, 99, 100], [], 0⟩, ⟨4, 0, 0, [], [], 5⟩, ⟨4, 0, 0, [], [], 12⟩, ⟨3, 0, 0, [97, 98, 99, 100], [], 0⟩, ⟨3, 0, 0, [48, 48, 49], [], 0⟩, ⟨3, 0, 0, [48, 48, 48], [], 0⟩, ⟨9, 0, 0, [], [], 0⟩, ⟨4, 0, 0, [], [], 1099511627777⟩]
def qAn : List An := [⟨0, []⟩, ⟨1, []⟩, ⟨13, []⟩, ⟨0, [48, 48, 48]⟩, ⟨0, [48, 48, 49]⟩, ⟨0, [48, 48, 48]⟩, ⟨9, []⟩, ⟨1, []⟩, ⟨0, [97, 98, 99, 100]⟩, ⟨11, []⟩, ⟨0, [97, 98, 99, 100]⟩, ⟨0, [117]⟩, ⟨0, []⟩, ⟨0, []⟩, ⟨10, []⟩, ⟨0, [117]⟩, ⟨10, []⟩, ⟨1, []⟩, ⟨1, []⟩]
def qS : Nat → St
  | 0 => s0L
  | k + 1 => (ldo (qS k) (qCm.getD k ⟨0, 0, 0, [], [], 0⟩)).1
theorem qCm_wide : ∀ c ∈ qCm, c.wide := by
  have h : ∀ c ∈ qCm, (c.kind ≤ 10 ∧ 0 ≤ c.kind) ∧ c.client = 0 ∧ c.seq = 0 ∧ c.name.length ≤ 10 ∧ c.url.length ≤ 10 ∧ 0 ≤ c.till ∧ c.till ≤ 1099511627777 := by decide +kernel
  intro c hc
  obtain ⟨⟨h1, h0⟩, h2, h3, h4, h5, h6, h7⟩ := h c hc
  exact ⟨by omega, by omega, by omega, by omega, by omega, by omega, by simp only [maxLen]; omega, by simp only [maxLen]; omega, h6, by omega⟩
theorem qS_inv : ∀ k, LInv (qS k)
  | 0 => linv0
  | k + 1 => (qS_inv k).step (by
    rw [List.getD_eq_getElem?_getD]
    cases h : qCm[k]? with
    | none => simp
    | some c => exact (qCm_wide c (List.mem_of_getElem? h)).t0)
theorem qS_sess : ∀ k, (qS k).sess = []
  | 0 => rfl
  | k + 1 => (ldo_sess _ _).trans (qS_sess k)
theorem qS_an0 : ∀ k : Fin 19, (ldo (qS k) (qCm.getD k ⟨0, 0, 0, [], [], 0⟩)).2.err = (qAn.getD k ⟨0, []⟩).err ∧ (ldo (qS k) (qCm.getD k ⟨0, 0, 0, [], [], 0⟩)).2.text = (qAn.getD k ⟨0, []⟩).text := by decide +kernel
theorem qS_an (k : Fin 19) : (ldo (qS k) (qCm.getD k ⟨0, 0, 0, [], [], 0⟩)).2 = qAn.getD k ⟨0, []⟩ := by
  obtain ⟨h1, h2⟩ := qS_an0 k
  cases h : (ldo (qS k) (qCm.getD k ⟨0, 0, 0, [], [], 0⟩)).2
  cases h' : qAn.getD k ⟨0, []⟩
  rw [h, h'] at h1 h2
  simp only at h1 h2
  rw [h1, h2]
theorem qS_end : (qS 19).now = 12 ∧ (qS 19).count = 2 ∧ (qS 19).links.length = 1 := by decide +kernel
theorem Sl.blk {α : Type} {E : Enc α} {w : World} {g : Nat} {T : TypeId} {cs : Array Value} {css : List (List Value)} {l : List α} (h : Blk w g T cs) (hc : cs.toList = css.flatten) (he : Enc.Each E w noneAt css l) (hm : l.length ≤ maxLen) (n : Nat) (hn : n = l.length) : Enc.Sl E w noneAt (.slice (some ⟨g, 0, none⟩) n n) l := by
  subst hn
  refine ⟨_, _, css, rfl, Nat.le_refl _, hm, ⟨he.len, fun _ => ⟨_, rfl, h.lt, fun j u hu => ?_⟩⟩, fun _ _ _ h => h, he⟩
  have hadd : (⟨g, 0, none⟩ : Addr).add j = ⟨g, j, none⟩ := by unfold Addr.add; split <;> simp_all
  rw [hadd, h.cell, ← Array.getElem?_toList, hc]
  exact hu
theorem each_map {α : Type} {E : Enc α} {w : World} {X : Avoid} (f : α → List Value) : ∀ l : List α, (∀ a ∈ l, E.rep w X (f a) a) → Enc.Each E w X (l.map f) l
  | [], _ => Enc.Each.nil E w X
  | a :: l, h => Enc.Each.app (Enc.Each.single (h a List.mem_cons_self)) (each_map f l fun b hb => h b (List.mem_cons_of_mem _ hb))
theorem qCm_sl {w : World} {g : Nat} (h : Blk w g 37 #[.int .i64 4, .int .i64 0, .int .u64 0, str [], str [], .int .u64 10, .int .i64 1, .int .i64 0, .int .u64 0, str [], str [], .int .u64 0, .int .i64 1, .int .i64 0, .int .u64 0, str [], str [117], .int .u64 10, .int .i64 1, .int .i64 0, .int .u64 0, str [], str [117], .int .u64 11, .int .i64 1, .int .i64 0, .int .u64 0, str [], str [117], .int .u64 0, .int .i64 1, .int .i64 0, .int .u64 0, str [], str [117], .int .u64 11, .int .i64 2, .int .i64 0, .int .u64 0, str [97, 98, 99], str [117], .int .u64 0, .int .i64 2, .int .i64 0, .int .u64 0, str [97, 98, 99, 100], str [], .int .u64 0, .int .i64 2, .int .i64 0, .int .u64 0, str [97, 98, 99, 100], str [117], .int .u64 12, .int .i64 2, .int .i64 0, .int .u64 0, str [97, 98, 99, 100], str [117], .int .u64 0, .int .i64 2, .int .i64 0, .int .u64 0, str [97, 98, 99, 100], str [117], .int .u64 12, .int .i64 3, .int .i64 0, .int .u64 0, str [97, 98, 99, 100], str [], .int .u64 0, .int .i64 4, .int .i64 0, .int .u64 0, str [], str [], .int .u64 5, .int .i64 4, .int .i64 0, .int .u64 0, str [], str [], .int .u64 12, .int .i64 3, .int .i64 0, .int .u64 0, str [97, 98, 99, 100], str [], .int .u64 0, .int .i64 3, .int .i64 0, .int .u64 0, str [48, 48, 49], str [], .int .u64 0, .int .i64 3, .int .i64 0, .int .u64 0, str [48, 48, 48], str [], .int .u64 0, .int .i64 9, .int .i64 0, .int .u64 0, str [], str [], .int .u64 0, .int .i64 4, .int .i64 0, .int .u64 0, str [], str [], .int .u64 1099511627777]) : Enc.Sl cmE w noneAt (.slice (some ⟨g, 0, none⟩) 19 19) qCm :=
  Sl.blk (css := qCm.map fun c => (ccells c).toList) h rfl (each_map _ _ fun c hc => cm_rep (qCm_wide c hc)) (by decide) 19 rfl
theorem qAn_ok : ∀ a ∈ qAn, (0 ≤ a.err ∧ a.err ≤ 100) ∧ a.text.length ≤ 10 := by decide +kernel
theorem qAn_sl {w : World} {g : Nat} (h : Blk w g 33 #[.int .i64 0, str [], .int .i64 1, str [], .int .i64 13, str [], .int .i64 0, str [48, 48, 48], .int .i64 0, str [48, 48, 49], .int .i64 0, str [48, 48, 48], .int .i64 9, str [], .int .i64 1, str [], .int .i64 0, str [97, 98, 99, 100], .int .i64 11, str [], .int .i64 0, str [97, 98, 99, 100], .int .i64 0, str [117], .int .i64 0, str [], .int .i64 0, str [], .int .i64 10, str [], .int .i64 0, str [117], .int .i64 10, str [], .int .i64 1, str [], .int .i64 1, str []]) : Enc.Sl anE w noneAt (.slice (some ⟨g, 0, none⟩) 19 19) qAn :=
  Sl.blk (css := qAn.map acells) h rfl (each_map _ _ fun a ha => by
    obtain ⟨⟨h1, h2⟩, h3⟩ := qAn_ok a ha
    exact an_rep.2 ⟨rfl, ⟨by omega, by omega⟩, by simp only [maxLen]; omega⟩) (by decide) 19 rfl
theorem an_at {w : World} {X : Avoid} {A : Option Addr} {n c k : Nat} {l : List An} (h : Enc.Sl anE w X (.slice A n c) l) (hk : k < l.length) : ∃ (ad : Addr) (a : An), A = some ad ∧ Hid (l[k]? = some a) ∧ ad.block < w.heap.size ∧ w.cell? (ad.add (k * 2)) = some (.int .i64 a.err) ∧
    w.cell? ⟨(ad.add (k * 2)).block, (ad.add (k * 2)).off + 1, none⟩ = some (str a.text) := by
  obtain ⟨ad, cs, rfl, hrep, hb, hcell⟩ := h.at_ hk
  obtain ⟨rfl, -, -⟩ := an_rep.1 hrep
  exact ⟨ad, _, rfl, hide (List.getElem?_eq_getElem hk), hb, Enc.cell0 hcell rfl, Enc.cellS hcell 0 rfl⟩
set_option maxHeartbeats 12800000 in
theorem linksForms_walk (w : World) :
    Calls Try.prog 9 #[] w fun e w' => e = .returned (.bool true) ∧ Ext w w' := by
  go_enter Try.func9, Try.ntmps9
  go_wp2_with fail
  refine (begun18_b w).mono ?_
  rintro e w1 ⟨rfl, hx1⟩
  have hC := Blk.new w1 37 #[.int .i64 4, .int .i64 0, .int .u64 0, str [], str [], .int .u64 10, .int .i64 1, .int .i64 0, .int .u64 0, str [], str [], .int .u64 0, .int .i64 1, .int .i64 0, .int .u64 0, str [], str [117], .int .u64 10, .int .i64 1, .int .i64 0, .int .u64 0, str [], str [117], .int .u64 11, .int .i64 1, .int .i64 0, .int .u64 0, str [], str [117], .int .u64 0, .int .i64 1, .int .i64 0, .int .u64 0, str [], str [117], .int .u64 11, .int .i64 2, .int .i64 0, .int .u64 0, str [97, 98, 99], str [117], .int .u64 0, .int .i64 2, .int .i64 0, .int .u64 0, str [97, 98, 99, 100], str [], .int .u64 0, .int .i64 2, .int .i64 0, .int .u64 0, str [97, 98, 99, 100], str [117], .int .u64 12, .int .i64 2, .int .i64 0, .int .u64 0, str [97, 98, 99, 100], str [117], .int .u64 0, .int .i64 2, .int .i64 0, .int .u64 0, str [97, 98, 99, 100], str [117], .int .u64 12, .int .i64 3, .int .i64 0, .int .u64 0, str [97, 98, 99, 100], str [], .int .u64 0, .int .i64 4, .int .i64 0, .int .u64 0, str [], str [], .int .u64 5, .int .i64 4, .int .i64 0, .int .u64 0, str [], str [], .int .u64 12, .int .i64 3, .int .i64 0, .int .u64 0, str [97, 98, 99, 100], str [], .int .u64 0, .int .i64 3, .int .i64 0, .int .u64 0, str [48, 48, 49], str [], .int .u64 0, .int .i64 3, .int .i64 0, .int .u64 0, str [48, 48, 48], str [], .int .u64 0, .int .i64 9, .int .i64 0, .int .u64 0, str [], str [], .int .u64 0, .int .i64 4, .int .i64 0, .int .u64 0, str [], str [], .int .u64 1099511627777]
  obtain ⟨gc, hg⟩ : ∃ g_, w1.heap.size = g_ := ⟨_, rfl⟩
  rw [hg] at hC
  replace hx1 := hx1.alloc' (.cells #[.int .i64 4, .int .i64 0, .int .u64 0, str [], str [], .int .u64 10, .int .i64 1, .int .i64 0, .int .u64 0, str [], str [], .int .u64 0, .int .i64 1, .int .i64 0, .int .u64 0, str [], str [117], .int .u64 10, .int .i64 1, .int .i64 0, .int .u64 0, str [], str [117], .int .u64 11, .int .i64 1, .int .i64 0, .int .u64 0, str [], str [117], .int .u64 0, .int .i64 1, .int .i64 0, .int .u64 0, str [], str [117], .int .u64 11, .int .i64 2, .int .i64 0, .int .u64 0, str [97, 98, 99], str [117], .int .u64 0, .int .i64 2, .int .i64 0, .int .u64 0, str [97, 98, 99, 100], str [], .int .u64 0, .int .i64 2, .int .i64 0, .int .u64 0, str [97, 98, 99, 100], str [117], .int .u64 12, .int .i64 2, .int .i64 0, .int .u64 0, str [97, 98, 99, 100], str [117], .int .u64 0, .int .i64 2, .int .i64 0, .int .u64 0, str [97, 98, 99, 100], str [117], .int .u64 12, .int .i64 3, .int .i64 0, .int .u64 0, str [97, 98, 99, 100], str [], .int .u64 0, .int .i64 4, .int .i64 0, .int .u64 0, str [], str [], .int .u64 5, .int .i64 4, .int .i64 0, .int .u64 0, str [], str [], .int .u64 12, .int .i64 3, .int .i64 0, .int .u64 0, str [97, 98, 99, 100], str [], .int .u64 0, .int .i64 3, .int .i64 0, .int .u64 0, str [48, 48, 49], str [], .int .u64 0, .int .i64 3, .int .i64 0, .int .u64 0, str [48, 48, 48], str [], .int .u64 0, .int .i64 9, .int .i64 0, .int .u64 0, str [], str [], .int .u64 0, .int .i64 4, .int .i64 0, .int .u64 0, str [], str [], .int .u64 1099511627777] 37)
  go_upto_region 4 with fail
  try rw [hg]
  clear hg
  generalize w1.alloc (.cells #[.int .i64 4, .int .i64 0, .int .u64 0, str [], str [], .int .u64 10, .int .i64 1, .int .i64 0, .int .u64 0, str [], str [], .int .u64 0, .int .i64 1, .int .i64 0, .int .u64 0, str [], str [117], .int .u64 10, .int .i64 1, .int .i64 0, .int .u64 0, str [], str [117], .int .u64 11, .int .i64 1, .int .i64 0, .int .u64 0, str [], str [117], .int .u64 0, .int .i64 1, .int .i64 0, .int .u64 0, str [], str [117], .int .u64 11, .int .i64 2, .int .i64 0, .int .u64 0, str [97, 98, 99], str [117], .int .u64 0, .int .i64 2, .int .i64 0, .int .u64 0, str [97, 98, 99, 100], str [], .int .u64 0, .int .i64 2, .int .i64 0, .int .u64 0, str [97, 98, 99, 100], str [117], .int .u64 12, .int .i64 2, .int .i64 0, .int .u64 0, str [97, 98, 99, 100], str [117], .int .u64 0, .int .i64 2, .int .i64 0, .int .u64 0, str [97, 98, 99, 100], str [117], .int .u64 12, .int .i64 3, .int .i64 0, .int .u64 0, str [97, 98, 99, 100], str [], .int .u64 0, .int .i64 4, .int .i64 0, .int .u64 0, str [], str [], .int .u64 5, .int .i64 4, .int .i64 0, .int .u64 0, str [], str [], .int .u64 12, .int .i64 3, .int .i64 0, .int .u64 0, str [97, 98, 99, 100], str [], .int .u64 0, .int .i64 3, .int .i64 0, .int .u64 0, str [48, 48, 49], str [], .int .u64 0, .int .i64 3, .int .i64 0, .int .u64 0, str [48, 48, 48], str [], .int .u64 0, .int .i64 9, .int .i64 0, .int .u64 0, str [], str [], .int .u64 0, .int .i64 4, .int .i64 0, .int .u64 0, str [], str [], .int .u64 1099511627777] 37) = w2 at *
  have hD := Blk.new w2 33 #[.int .i64 0, str [], .int .i64 1, str [], .int .i64 13, str [], .int .i64 0, str [48, 48, 48], .int .i64 0, str [48, 48, 49], .int .i64 0, str [48, 48, 48], .int .i64 9, str [], .int .i64 1, str [], .int .i64 0, str [97, 98, 99, 100], .int .i64 11, str [], .int .i64 0, str [97, 98, 99, 100], .int .i64 0, str [117], .int .i64 0, str [], .int .i64 0, str [], .int .i64 10, str [], .int .i64 0, str [117], .int .i64 10, str [], .int .i64 1, str [], .int .i64 1, str []]
  obtain ⟨gd, hg⟩ : ∃ g_, w2.heap.size = g_ := ⟨_, rfl⟩
  rw [hg] at hD
  replace hC := qCm_sl (hC.alloc (.cells #[.int .i64 0, str [], .int .i64 1, str [], .int .i64 13, str [], .int .i64 0, str [48, 48, 48], .int .i64 0, str [48, 48, 49], .int .i64 0, str [48, 48, 48], .int .i64 9, str [], .int .i64 1, str [], .int .i64 0, str [97, 98, 99, 100], .int .i64 11, str [], .int .i64 0, str [97, 98, 99, 100], .int .i64 0, str [117], .int .i64 0, str [], .int .i64 0, str [], .int .i64 10, str [], .int .i64 0, str [117], .int .i64 10, str [], .int .i64 1, str [], .int .i64 1, str []] 33))
  replace hx1 := hx1.alloc' (.cells #[.int .i64 0, str [], .int .i64 1, str [], .int .i64 13, str [], .int .i64 0, str [48, 48, 48], .int .i64 0, str [48, 48, 49], .int .i64 0, str [48, 48, 48], .int .i64 9, str [], .int .i64 1, str [], .int .i64 0, str [97, 98, 99, 100], .int .i64 11, str [], .int .i64 0, str [97, 98, 99, 100], .int .i64 0, str [117], .int .i64 0, str [], .int .i64 0, str [], .int .i64 10, str [], .int .i64 0, str [117], .int .i64 10, str [], .int .i64 1, str [], .int .i64 1, str []] 33)
  go_upto_region 5 with fail
  try rw [hg]
  clear hg
  generalize w2.alloc (.cells #[.int .i64 0, str [], .int .i64 1, str [], .int .i64 13, str [], .int .i64 0, str [48, 48, 48], .int .i64 0, str [48, 48, 49], .int .i64 0, str [48, 48, 48], .int .i64 9, str [], .int .i64 1, str [], .int .i64 0, str [97, 98, 99, 100], .int .i64 11, str [], .int .i64 0, str [97, 98, 99, 100], .int .i64 0, str [117], .int .i64 0, str [], .int .i64 0, str [], .int .i64 10, str [], .int .i64 0, str [117], .int .i64 10, str [], .int .i64 1, str [], .int .i64 1, str []] 33) = w3 at *
  replace hD := qAn_sl hD
  generalize (⟨gc, 0, none⟩ : Addr) = adc at *
  generalize (⟨gd, 0, none⟩ : Addr) = add at *
  obtain ⟨lc, hlc⟩ : ∃ l, l = qCm := ⟨_, rfl⟩
  obtain ⟨ld, hld⟩ : ∃ l, l = qAn := ⟨_, rfl⟩
  rw [← hlc] at hC
  rw [← hld] at hD
  have llc : lc.length = 19 := by rw [hlc]; rfl
  have lld : ld.length = 19 := by rw [hld]; rfl
  have HLC := hide hlc
  have HLD := hide hld
  clear hlc hld
  obtain ⟨g1, hg⟩ : ∃ g_, w3.heap.size = g_ := ⟨_, rfl⟩
  have hS := Blk.new w3 28 #[.int .u64 0, .int .u64 0, .slice none 0 0, .slice none 0 0]
  rw [hg] at hS
  have hx2 : Ext w3 (w3.alloc (.cells #[.int .u64 0, .int .u64 0, .slice none 0 0, .slice none 0 0] 28)) := (Ext.rfl' w3).alloc' _
  have hw1 : w3.heap.size ≤ g1 := by omega
  go_upto_region 6 with fail
  try rw [hg]
  clear hg
  generalize (w3.alloc (.cells #[.int .u64 0, .int .u64 0, .slice none 0 0, .slice none 0 0] 28)) = w4 at *
  go_wp2_with fail
  go_loopw [4] (fun i wr => ∃ (k : Nat) (s : St) (At : Option Addr) (ct : Nat) (Au : Option Addr) (cu : Nat), k ≤ 19 ∧ s = qS k ∧ i = .int .i64 k ∧ Blk wr g1 28 #[.int .u64 s.now, .int .u64 s.count, .slice At s.links.length ct, .slice Au s.sess.length cu] ∧
      stE.rep wr (fun j => j = g1) [.int .u64 s.now, .int .u64 s.count, .slice At s.links.length ct, .slice Au s.sess.length cu] s ∧ Ext w3 wr) (fun i _ => (19 - intOf i).toNat)
  case atStart => exact ⟨0, s0L, none, 0, none, 0, by omega, rfl, rfl, hS, stN_rep _ _, hx2⟩
  case round =>
    clear hS hx2
    obtain ⟨k, s, At, ct, Au, cu, hkl, hsk, rfl, hS, hrep, hxr⟩ := hrel
    by_cases hlt : k < 19
    · obtain ⟨ga, hg⟩ : ∃ g_, wr.heap.size = g_ := ⟨_, rfl⟩
      have hA := Blk.new wr 33 (acells ⟨0, []⟩).toArray
      rw [hg] at hA
      have hz : Ext wr (wr.alloc (.cells (acells ⟨0, []⟩).toArray 33)) := (Ext.rfl' wr).alloc' _
      have hga : g1 < ga := by have := hS.lt; omega
      have n1 : ¬ g1 = ga := by omega
      have n2 : ¬ ga = g1 := by omega
      replace hS := hS.ext hz
      replace hrep := stE.ext (stE.mono hrep (Y := fun j => j = g1 ∨ j = ga) (fun j hj h => h.elim id fun h => by omega)) hz
      replace hxr := hxr.trans' hz
      have hlt19 : (k : Int) < 19 := by omega
      go_upto_region 10 with fail
      try rw [hg]
      clear hz hg
      generalize (wr.alloc (.cells (acells ⟨0, []⟩).toArray 33)) = w5 at *
      obtain ⟨ad, m, had, hm, hbk, p0, p1, p2, p3, p4, p5, hmw⟩ := cm_at (hC.ext hxr) (k := k) (by omega)
      obtain rfl := Option.some.inj had
      obtain ⟨ad2, a, had2, ha, hbk2, q0_, q1_⟩ := an_at (hD.ext hxr) (k := k) (by omega)
      obtain rfl := Option.some.inj had2
      have hga3 : w3.heap.size ≤ ga := by omega
      have hXg : ∀ k, (k = g1 ∨ k = ga) → k < w5.heap.size := fun k hk => hk.elim (fun h => h ▸ hS.lt) fun h => h ▸ hA.lt
      have hmq : m = qCm.getD k ⟨0, 0, 0, [], [], 0⟩ := by
        have := hm.out
        rw [HLC.out] at this
        rw [List.getD_eq_getElem?_getD, this]; rfl
      have haq : a = qAn.getD k ⟨0, []⟩ := by
        have := ha.out
        rw [HLD.out] at this
        rw [List.getD_eq_getElem?_getD, this]; rfl
      have hta : ldo s m = (qS (k + 1), a) := by
        rw [hsk, hmq, haq, ← qS_an ⟨k, hlt⟩]
        rfl
      have hmU : m.url.length ≤ 10 ∧ m.name.length ≤ 10 := by
        have h : ∀ c ∈ qCm, c.url.length ≤ 10 ∧ c.name.length ≤ 10 := by decide +kernel
        exact h m (by rw [← HLC.out]; exact List.mem_of_getElem? hm.out)
      obtain ⟨t, ht⟩ : ∃ t, qS (k + 1) = t := ⟨_, rfl⟩
      have HD := hide (fun W (hx : Ext w5 W) => ldoL_b (fun j => j = g1 ∨ j = ga) s _ m W (fun k hk => Nat.lt_of_lt_of_le (hXg k hk) hx.size) (stE.ext hrep hx) (by rw [hsk]; exact qS_inv k) (by rw [hsk]; exact qS_sess k) hmw (by omega) (by omega))
      rw [hta, ht] at HD
      have HT := hide ht
      clear hta hmq haq hsk hmU ht
      have hb1 : (0 : Int) ≤ k := by omega
      have HLT := hide hlt
      clear hlt
      go_wp2
      refine Rg.regionX Try.checked.mixed 83 9 8 62 _ _ (by rfl) (by rfl) (by kernel_rfl) [
        (fun x_ _ => x_ = .agg #[.int .u64 s.now, .int .u64 s.count, .slice At s.links.length ct, .slice Au s.sess.length cu]),
        (fun x_ _ => x_ = .slice (some adc) 19 19),
        (fun x_ _ => x_ = .int .i64 k),
        (fun x_ _ => x_ = .pointer (some (adc.add (k * 6)))),
        (fun x_ _ => x_ = .agg #[.int .i64 m.kind, .int .i64 m.client, .int .u64 m.seq, str m.name, str m.url, .int .u64 m.till]),
        (fun v W => ∃ A1 c1 A2 c2, v = .tuple #[.agg #[.int .u64 t.now, .int .u64 t.count, .slice A1 t.links.length c1, .slice A2 t.sess.length c2], .agg #[.int .i64 a.err, str a.text]] ∧ stE.rep W (fun j => j = g1 ∨ j = ga) [.int .u64 t.now, .int .u64 t.count, .slice A1 t.links.length c1, .slice A2 t.sess.length c2] t),
        (fun v W => ∃ A1 c1 A2 c2, v = .tuple #[.agg #[.int .u64 t.now, .int .u64 t.count, .slice A1 t.links.length c1, .slice A2 t.sess.length c2], .agg #[.int .i64 a.err, str a.text]] ∧ stE.rep W (fun j => j = g1 ∨ j = ga) [.int .u64 t.now, .int .u64 t.count, .slice A1 t.links.length c1, .slice A2 t.sess.length c2] t),
        (fun v W => ∃ A1 c1 A2 c2, v = .agg #[.int .u64 t.now, .int .u64 t.count, .slice A1 t.links.length c1, .slice A2 t.sess.length c2] ∧ stE.rep W (fun j => j = g1 ∨ j = ga) [.int .u64 t.now, .int .u64 t.count, .slice A1 t.links.length c1, .slice A2 t.sess.length c2] t),
        (fun x_ _ => x_ = .agg #[.int .i64 a.err, str a.text])] (fun W => Ext w5 W) Ext rfl rfl rfl
        ?st ((Ext.rfl' w5).drew') ?ob ?en ?en2
      case st => exact ⟨fun _ _ _ h _ => h, fun _ _ _ h _ => h, fun _ _ _ h _ => h, fun _ _ _ h _ => h, fun _ _ _ h _ => h, fun _ _ _ ⟨a1_, a2_, a3_, a4_, h1_, h2_⟩ hx => ⟨a1_, a2_, a3_, a4_, h1_, stE.ext h2_ hx⟩, fun _ _ _ ⟨a1_, a2_, a3_, a4_, h1_, h2_⟩ hx => ⟨a1_, a2_, a3_, a4_, h1_, stE.ext h2_ hx⟩, fun _ _ _ ⟨a1_, a2_, a3_, a4_, h1_, h2_⟩ hx => ⟨a1_, a2_, a3_, a4_, h1_, stE.ext h2_ hx⟩, fun _ _ _ h _ => h, trivial⟩
      case ob =>
        refine ⟨Rg.at_run [3] rfl ?_, ?_⟩
        · intro ρ W hR ⟨q3, _⟩
          replace q3 : ρ 3 = .pointer (some ⟨g1, 0, none⟩) := q3
          refine ⟨rfl, ?_⟩
          have c0_ : W.cell? ⟨g1, 0, none⟩ = some (.int .u64 s.now) := ((hS.ext hR).cell 0).trans rfl
          have c1_ : W.cell? ⟨g1, 1, none⟩ = some (.int .u64 s.count) := ((hS.ext hR).cell 1).trans rfl
          have c2_ : W.cell? ⟨g1, 2, none⟩ = some (.slice At s.links.length ct) := ((hS.ext hR).cell 2).trans rfl
          have c3_ : W.cell? ⟨g1, 3, none⟩ = some (.slice Au s.sess.length cu) := ((hS.ext hR).cell 3).trans rfl
          exact Rg.run_ok (v := .agg #[.int .u64 s.now, .int .u64 s.count, .slice At s.links.length ct, .slice Au s.sess.length cu]) (by simp [execOp, Rg.ev, go_sem, q3, c0_, c1_, c2_, c3_]) ⟨rfl, hR, Ext.rfl' _⟩
        refine ⟨Rg.at_run [1] rfl ?_, ?_⟩
        · intro ρ W hR ⟨q1, _⟩
          replace q1 : ρ 1 = .slice (some adc) 19 19 := q1
          refine ⟨rfl, ?_⟩
          exact Rg.run_ok (v := .slice (some adc) 19 19) (by simp [execOp, Rg.ev, go_sem, q1]) ⟨rfl, hR, Ext.rfl' _⟩
        refine ⟨Rg.at_run [4] rfl ?_, ?_⟩
        · intro ρ W hR ⟨q4, _⟩
          replace q4 : ρ 4 = .int .i64 k := q4
          refine ⟨rfl, ?_⟩
          exact Rg.run_ok (v := .int .i64 k) (by simp [execOp, Rg.ev, go_sem, q4]) ⟨rfl, hR, Ext.rfl' _⟩
        refine ⟨Rg.at_run [56, 57] rfl ?_, ?_⟩
        · intro ρ W hR ⟨q56, q57, _⟩
          replace q56 : ρ 56 = .slice (some adc) 19 19 := q56
          replace q57 : ρ 57 = .int .i64 k := q57
          refine ⟨rfl, ?_⟩
          exact Rg.run_ok (v := .pointer (some (adc.add (k * 6)))) (by simp [execOp, Rg.ev, go_sem, q56, q57, hb1, hlt19]) ⟨rfl, hR, Ext.rfl' _⟩
        refine ⟨Rg.at_run [58] rfl ?_, ?_⟩
        · intro ρ W hR ⟨q58, _⟩
          replace q58 : ρ 58 = .pointer (some (adc.add (k * 6))) := q58
          refine ⟨rfl, ?_⟩
          have hab_ : (adc.add (k * 6)).block < w5.heap.size := by rw [block_of_add]; exact hbk
          have c0_ : W.cell? (adc.add (k * 6)) = some (.int .i64 m.kind) := (hR.cell (p := (adc.add (k * 6))) hab_).trans p0
          have c1_ : W.cell? ⟨(adc.add (k * 6)).block, (adc.add (k * 6)).off + 1, none⟩ = some (.int .i64 m.client) := (hR.cell (p := ⟨(adc.add (k * 6)).block, (adc.add (k * 6)).off + 1, none⟩) hab_).trans p1
          have c2_ : W.cell? ⟨(adc.add (k * 6)).block, (adc.add (k * 6)).off + 2, none⟩ = some (.int .u64 m.seq) := (hR.cell (p := ⟨(adc.add (k * 6)).block, (adc.add (k * 6)).off + 2, none⟩) hab_).trans p2
          have c3_ : W.cell? ⟨(adc.add (k * 6)).block, (adc.add (k * 6)).off + 3, none⟩ = some (str m.name) := (hR.cell (p := ⟨(adc.add (k * 6)).block, (adc.add (k * 6)).off + 3, none⟩) hab_).trans p3
          have c4_ : W.cell? ⟨(adc.add (k * 6)).block, (adc.add (k * 6)).off + 4, none⟩ = some (str m.url) := (hR.cell (p := ⟨(adc.add (k * 6)).block, (adc.add (k * 6)).off + 4, none⟩) hab_).trans p4
          have c5_ : W.cell? ⟨(adc.add (k * 6)).block, (adc.add (k * 6)).off + 5, none⟩ = some (.int .u64 m.till) := (hR.cell (p := ⟨(adc.add (k * 6)).block, (adc.add (k * 6)).off + 5, none⟩) hab_).trans p5
          exact Rg.run_ok (v := .agg #[.int .i64 m.kind, .int .i64 m.client, .int .u64 m.seq, str m.name, str m.url, .int .u64 m.till]) (by simp [execOp, Rg.ev, go_sem, q58, c0_, c1_, c2_, c3_, c4_, c5_]) ⟨rfl, hR, Ext.rfl' _⟩
        refine ⟨Rg.at_run [55, 59] rfl ?_, ?_⟩
        · intro ρ W hR ⟨q55, q59, _⟩
          replace q55 : ρ 55 = .agg #[.int .u64 s.now, .int .u64 s.count, .slice At s.links.length ct, .slice Au s.sess.length cu] := q55
          replace q59 : ρ 59 = .agg #[.int .i64 m.kind, .int .i64 m.client, .int .u64 m.seq, str m.name, str m.url, .int .u64 m.till] := q59
          refine ⟨rfl, ?_⟩
          refine Rg.enter_fn (args := #[.agg #[.int .u64 s.now, .int .u64 s.count, .slice At s.links.length ct, .slice Au s.sess.length cu], .agg #[.int .i64 m.kind, .int .i64 m.client, .int .u64 m.seq, str m.name, str m.url, .int .u64 m.till]]) rfl (by simp only [List.map_toArray, List.map_cons, List.map_nil, Rg.ev, q55, q59]) (by kernel_rfl) ?_
          refine (HD.out W hR).mono ?_
          rintro e_ w9 ⟨t_, a_, A1, c1, A2, c2, h1_, rfl, h2_, hxx⟩
          obtain ⟨rfl, rfl⟩ := Prod.mk.inj h1_.out
          exact ⟨_, rfl, ⟨A1, c1, A2, c2, rfl, h2_⟩, hR.trans' hxx, hxx⟩
        refine ⟨Rg.at_run [60] rfl ?_, ?_⟩
        · intro ρ W hR ⟨q60, _⟩
          replace q60 : (fun v W => ∃ A1 c1 A2 c2, v = .tuple #[.agg #[.int .u64 t.now, .int .u64 t.count, .slice A1 t.links.length c1, .slice A2 t.sess.length c2], .agg #[.int .i64 a.err, str a.text]] ∧ stE.rep W (fun j => j = g1 ∨ j = ga) [.int .u64 t.now, .int .u64 t.count, .slice A1 t.links.length c1, .slice A2 t.sess.length c2] t) (ρ 60) W := q60
          refine ⟨rfl, ?_⟩
          exact Rg.run_ok (by simp [execOp, Rg.ev, go_sem] <;> rfl) ⟨q60, hR, Ext.rfl' _⟩
        refine ⟨Rg.at_run [54] rfl ?_, ?_⟩
        · intro ρ W hR ⟨q54, _⟩
          replace q54 : (fun v W => ∃ A1 c1 A2 c2, v = .tuple #[.agg #[.int .u64 t.now, .int .u64 t.count, .slice A1 t.links.length c1, .slice A2 t.sess.length c2], .agg #[.int .i64 a.err, str a.text]] ∧ stE.rep W (fun j => j = g1 ∨ j = ga) [.int .u64 t.now, .int .u64 t.count, .slice A1 t.links.length c1, .slice A2 t.sess.length c2] t) (ρ 54) W := q54
          refine ⟨rfl, ?_⟩
          obtain ⟨A1, c1, A2, c2, hv_, hr_⟩ := q54
          exact Rg.run_ok (v := .agg #[.int .u64 t.now, .int .u64 t.count, .slice A1 t.links.length c1, .slice A2 t.sess.length c2]) (by simp [execOp, Rg.ev, go_sem, hv_]) ⟨⟨A1, c1, A2, c2, rfl, hr_⟩, hR, Ext.rfl' _⟩
        refine ⟨Rg.at_run [54] rfl ?_, ?_⟩
        · intro ρ W hR ⟨q54, _⟩
          replace q54 : (fun v W => ∃ A1 c1 A2 c2, v = .tuple #[.agg #[.int .u64 t.now, .int .u64 t.count, .slice A1 t.links.length c1, .slice A2 t.sess.length c2], .agg #[.int .i64 a.err, str a.text]] ∧ stE.rep W (fun j => j = g1 ∨ j = ga) [.int .u64 t.now, .int .u64 t.count, .slice A1 t.links.length c1, .slice A2 t.sess.length c2] t) (ρ 54) W := q54
          refine ⟨rfl, ?_⟩
          obtain ⟨A1, c1, A2, c2, hv_, hr_⟩ := q54
          exact Rg.run_ok (v := .agg #[.int .i64 a.err, str a.text]) (by simp [execOp, Rg.ev, go_sem, hv_]) ⟨rfl, hR, Ext.rfl' _⟩
        trivial
      case en =>
        intro tm W hR hsz hk
        rw [Rg.fin_eq (ds := [55, 56, 57, 58, 59, 60, 54, 61, 62]) rfl rfl rfl hsz hk]
        have k54 : (fun v W => ∃ A1 c1 A2 c2, v = .tuple #[.agg #[.int .u64 t.now, .int .u64 t.count, .slice A1 t.links.length c1, .slice A2 t.sess.length c2], .agg #[.int .i64 a.err, str a.text]] ∧ stE.rep W (fun j => j = g1 ∨ j = ga) [.int .u64 t.now, .int .u64 t.count, .slice A1 t.links.length c1, .slice A2 t.sess.length c2] t) (tm.getD 54 undef) W := hk 54
        have k55 : tm.getD 55 undef = .agg #[.int .u64 s.now, .int .u64 s.count, .slice At s.links.length ct, .slice Au s.sess.length cu] := hk 55
        have k56 : tm.getD 56 undef = .slice (some adc) 19 19 := hk 56
        have k57 : tm.getD 57 undef = .int .i64 k := hk 57
        have k58 : tm.getD 58 undef = .pointer (some (adc.add (k * 6))) := hk 58
        have k59 : tm.getD 59 undef = .agg #[.int .i64 m.kind, .int .i64 m.client, .int .u64 m.seq, str m.name, str m.url, .int .u64 m.till] := hk 59
        have k60 : (fun v W => ∃ A1 c1 A2 c2, v = .tuple #[.agg #[.int .u64 t.now, .int .u64 t.count, .slice A1 t.links.length c1, .slice A2 t.sess.length c2], .agg #[.int .i64 a.err, str a.text]] ∧ stE.rep W (fun j => j = g1 ∨ j = ga) [.int .u64 t.now, .int .u64 t.count, .slice A1 t.links.length c1, .slice A2 t.sess.length c2] t) (tm.getD 60 undef) W := hk 60
        have k61 : (fun v W => ∃ A1 c1 A2 c2, v = .agg #[.int .u64 t.now, .int .u64 t.count, .slice A1 t.links.length c1, .slice A2 t.sess.length c2] ∧ stE.rep W (fun j => j = g1 ∨ j = ga) [.int .u64 t.now, .int .u64 t.count, .slice A1 t.links.length c1, .slice A2 t.sess.length c2] t) (tm.getD 61 undef) W := hk 61
        have k62 : tm.getD 62 undef = .agg #[.int .i64 a.err, str a.text] := hk 62
        clear hk hsz
        simp only [Rg.putAll, List.setIfInBounds_toArray, List.set_cons_zero, List.set_cons_succ, k55, k56, k57, k58, k59, k62]
        generalize tm.getD 54 undef = u54 at *
        clear k55
        clear k56
        clear k57
        clear k58
        clear k59
        generalize tm.getD 60 undef = u60 at *
        generalize tm.getD 61 undef = u61 at *
        clear k62
        clear k54 k60
        obtain ⟨A1, c1, A2, c2, rfl, hrep1⟩ := k61
        replace hS := hS.ext hR
        replace hA := hA.ext hR
        replace hxr := hxr.trans' hR
        have l0 := (hS.cell 0).trans rfl
        have l1 := (hS.cell 1).trans rfl
        have l2 := (hS.cell 2).trans rfl
        have l3 := (hS.cell 3).trans rfl
        have n0 := hS.frozen 0
        have n1_ := hS.frozen 1
        have n2_ := hS.frozen 2
        have n3 := hS.frozen 3
        have a0 := (hA.cell 0).trans rfl
        have a1 := (hA.cell 1).trans rfl
        have b0 := hA.frozen 0
        have b1 := hA.frozen 1
        have hcg : Chg [g1] W _ := (Chg.refl [g1] W).four (g := g1) (by simp) (.int .u64 t.now) (.int .u64 t.count) (.slice A1 t.links.length c1) (.slice A2 t.sess.length c2)
        have hS1 := Blk.four hS (.int .u64 t.now) (.int .u64 t.count) (.slice A1 t.links.length c1) (.slice A2 t.sess.length c2)
        have hA1 := Blk.two_ (hA.chg hcg (by simp; omega)) (.int .i64 a.err) (str a.text)
        have hc2 : Chg [ga] _ _ := (Chg.refl [ga] ((((W.setCell ⟨g1, 0, none⟩ (.int .u64 t.now)).setCell ⟨g1, 1, none⟩ (.int .u64 t.count)).setCell ⟨g1, 2, none⟩ (.slice A1 t.links.length c1)).setCell ⟨g1, 3, none⟩ (.slice A2 t.sess.length c2))).two_ (g := ga) (by simp) (.int .i64 a.err) (str a.text)
        have hS2 := hS1.chg hc2 (by simp; omega)
        have hrep2 := stE.mono (stE.chg (stE.chg hrep1 hcg (fun j hj _ => .inl (by simpa using hj))) hc2 (fun j hj _ => .inr (by simpa using hj))) (Y := fun j => j = g1) (fun j _ h => .inl h)
        have hx2 := (hxr.then_ hcg (by simp; omega)).then_ hc2 (by simp; omega)
        go_upto_region 11 with fail
        generalize (((((W.setCell ⟨g1, 0, none⟩ (.int .u64 t.now)).setCell ⟨g1, 1, none⟩ (.int .u64 t.count)).setCell ⟨g1, 2, none⟩ (.slice A1 t.links.length c1)).setCell ⟨g1, 3, none⟩ (.slice A2 t.sess.length c2)).setCell ⟨ga, 0, none⟩ (.int .i64 a.err)).setCell ⟨ga, 1, none⟩ (str a.text) = w6 at *
        clear hcg hc2 hS1 l0 l1 l2 l3 n0 n1_ n2_ n3 a0 a1 b0 b1 hS hA hrep1 hR hxr q0_ q1_ p0 p1 p2 p3 p4 p5
        have a0 := (hA1.cell 0).trans rfl
        have a1 := (hA1.cell 1).trans rfl
        obtain ⟨ad3, a3_, had3, ha3, -, q0_, q1_⟩ := an_at (hD.ext hx2) (k := k) (by have := HLT.out; omega)
        obtain rfl := Option.some.inj had3
        obtain rfl : a = a3_ := Option.some.inj (ha.out.symm.trans ha3.out)
        go_region
        go_wp2_with fail
        go_roundw
        case rel => exact ⟨k + 1, t, A1, c1, A2, c2, by have := HLT.out; omega, HT.out.symm, by go_num, hS2.drew, stE.ext hrep2 (Ext.rfl' _).drew', hx2.drew'⟩
        case measure => have := HLT.out; simp [intOf]; omega
      case en2 =>
        intro tm W hR hsz hk
        rw [Rg.fin_eqX (ds := [55, 56, 57, 58, 59, 60, 54, 61, 62]) rfl (by decide) rfl rfl hsz hk]
        have k54 : (fun v W => ∃ A1 c1 A2 c2, v = .tuple #[.agg #[.int .u64 t.now, .int .u64 t.count, .slice A1 t.links.length c1, .slice A2 t.sess.length c2], .agg #[.int .i64 a.err, str a.text]] ∧ stE.rep W (fun j => j = g1 ∨ j = ga) [.int .u64 t.now, .int .u64 t.count, .slice A1 t.links.length c1, .slice A2 t.sess.length c2] t) (tm.getD 54 undef) W := hk 54
        have k55 : tm.getD 55 undef = .agg #[.int .u64 s.now, .int .u64 s.count, .slice At s.links.length ct, .slice Au s.sess.length cu] := hk 55
        have k56 : tm.getD 56 undef = .slice (some adc) 19 19 := hk 56
        have k57 : tm.getD 57 undef = .int .i64 k := hk 57
        have k58 : tm.getD 58 undef = .pointer (some (adc.add (k * 6))) := hk 58
        have k59 : tm.getD 59 undef = .agg #[.int .i64 m.kind, .int .i64 m.client, .int .u64 m.seq, str m.name, str m.url, .int .u64 m.till] := hk 59
        have k60 : (fun v W => ∃ A1 c1 A2 c2, v = .tuple #[.agg #[.int .u64 t.now, .int .u64 t.count, .slice A1 t.links.length c1, .slice A2 t.sess.length c2], .agg #[.int .i64 a.err, str a.text]] ∧ stE.rep W (fun j => j = g1 ∨ j = ga) [.int .u64 t.now, .int .u64 t.count, .slice A1 t.links.length c1, .slice A2 t.sess.length c2] t) (tm.getD 60 undef) W := hk 60
        have k61 : (fun v W => ∃ A1 c1 A2 c2, v = .agg #[.int .u64 t.now, .int .u64 t.count, .slice A1 t.links.length c1, .slice A2 t.sess.length c2] ∧ stE.rep W (fun j => j = g1 ∨ j = ga) [.int .u64 t.now, .int .u64 t.count, .slice A1 t.links.length c1, .slice A2 t.sess.length c2] t) (tm.getD 61 undef) W := hk 61
        clear hk hsz
        simp only [Rg.putAll, List.setIfInBounds_toArray, List.set_cons_zero, List.set_cons_succ, k55, k56, k57, k58, k59]
        generalize tm.getD 54 undef = u54 at *
        clear k55
        clear k56
        clear k57
        clear k58
        clear k59
        generalize tm.getD 60 undef = u60 at *
        generalize tm.getD 61 undef = u61 at *
        generalize tm.getD 62 undef = u62 at *
        clear k60
        obtain ⟨A1, c1, A2, c2, rfl, hrep1⟩ := k61
        replace hS := hS.ext hR
        replace hA := hA.ext hR
        replace hxr := hxr.trans' hR
        have l0 := (hS.cell 0).trans rfl
        have l1 := (hS.cell 1).trans rfl
        have l2 := (hS.cell 2).trans rfl
        have l3 := (hS.cell 3).trans rfl
        have n0 := hS.frozen 0
        have n1_ := hS.frozen 1
        have n2_ := hS.frozen 2
        have n3 := hS.frozen 3
        have a0 := (hA.cell 0).trans rfl
        have a1 := (hA.cell 1).trans rfl
        have b0 := hA.frozen 0
        have b1 := hA.frozen 1
        have hcg : Chg [g1] W _ := (Chg.refl [g1] W).four (g := g1) (by simp) (.int .u64 t.now) (.int .u64 t.count) (.slice A1 t.links.length c1) (.slice A2 t.sess.length c2)
        have hS1 := Blk.four hS (.int .u64 t.now) (.int .u64 t.count) (.slice A1 t.links.length c1) (.slice A2 t.sess.length c2)
        have hA1 := Blk.two_ (hA.chg hcg (by simp; omega)) (.int .i64 a.err) (str a.text)
        have hc2 : Chg [ga] _ _ := (Chg.refl [ga] ((((W.setCell ⟨g1, 0, none⟩ (.int .u64 t.now)).setCell ⟨g1, 1, none⟩ (.int .u64 t.count)).setCell ⟨g1, 2, none⟩ (.slice A1 t.links.length c1)).setCell ⟨g1, 3, none⟩ (.slice A2 t.sess.length c2))).two_ (g := ga) (by simp) (.int .i64 a.err) (str a.text)
        have hS2 := hS1.chg hc2 (by simp; omega)
        have hrep2 := stE.mono (stE.chg (stE.chg hrep1 hcg (fun j hj _ => .inl (by simpa using hj))) hc2 (fun j hj _ => .inr (by simpa using hj))) (Y := fun j => j = g1) (fun j _ h => .inl h)
        have hx2 := (hxr.then_ hcg (by simp; omega)).then_ hc2 (by simp; omega)
        obtain ⟨A8, c8, A9, c9, hv54, -⟩ := k54
        rw [hv54]
        clear hv54
        simp only [List.drop_succ_cons, List.drop_zero]
        go_upto_region 11 with fail
        generalize (((((W.setCell ⟨g1, 0, none⟩ (.int .u64 t.now)).setCell ⟨g1, 1, none⟩ (.int .u64 t.count)).setCell ⟨g1, 2, none⟩ (.slice A1 t.links.length c1)).setCell ⟨g1, 3, none⟩ (.slice A2 t.sess.length c2)).setCell ⟨ga, 0, none⟩ (.int .i64 a.err)).setCell ⟨ga, 1, none⟩ (str a.text) = w6 at *
        clear hcg hc2 hS1 l0 l1 l2 l3 n0 n1_ n2_ n3 a0 a1 b0 b1 hS hA hrep1 hR hxr q0_ q1_ p0 p1 p2 p3 p4 p5
        have a0 := (hA1.cell 0).trans rfl
        have a1 := (hA1.cell 1).trans rfl
        obtain ⟨ad3, a3_, had3, ha3, -, q0_, q1_⟩ := an_at (hD.ext hx2) (k := k) (by have := HLT.out; omega)
        obtain rfl := Option.some.inj had3
        obtain rfl : a = a3_ := Option.some.inj (ha.out.symm.trans ha3.out)
        go_region
        go_wp2_with fail
        go_roundw
        case rel => exact ⟨k + 1, t, A1, c1, A2, c2, by have := HLT.out; omega, HT.out.symm, by go_num, hS2.drew, stE.ext hrep2 (Ext.rfl' _).drew', hx2.drew'⟩
        case measure => have := HLT.out; simp [intOf]; omega
    · obtain rfl : k = 19 := by omega
      obtain ⟨z1, z2, z3⟩ := qS_end
      rw [← hsk] at z1 z2 z3
      clear hsk
      have l0 := (hS.cell 0).trans rfl
      have l1 := (hS.cell 1).trans rfl
      have l2 := (hS.cell 2).trans rfl
      rw [z1] at l0
      rw [z2] at l1
      rw [z3] at l2
      clear z1 z2 z3
      go_wp2_with fail
      go_ret
      exact ⟨rfl, hx1.trans' hxr⟩
end Go.Proofs.Ytggfemdgccgbpaa

/- The statement 'LinksFormsSaid': whatever is handed in, the law answers true, and what was handed in is as it was. -/
namespace Go.Proofs.Ytggfemdgccgbpaa.linksForms
set_option linter.unusedVariables false
set_option linter.unusedSimpArgs false
set_option linter.unnecessarySimpa false
set_option maxRecDepth 100000
open Go.ChangeShapes Go.WideShapes Go.ChangeAt Go.RowKit
open Go.ChangeMaps (open_string shut_string)

set_option maxRecDepth 100000 in
set_option maxHeartbeats 2000000 in
theorem lifted (os : Os) (started : os.Started) (H : Type) (enc : TypeId × Value → H) :
    ReturnsInHanded {} Try.checked os 9 .any (Rows.linksFormsSpec.pre6 enc Try.prog Try.f9 Rows.linksFormsRow.domain false) (Rows.linksFormsSpec.post enc Try.prog Try.f9 false true false false) := by
  refine returnsInHanded_of_change (C := Try.checked) own started (by kernel_rfl) Try.func9
    (ChangeSpec.witness6 (enc := enc) (C := Try.checked) false ⟨#[], #[], []⟩ 8 (by kernel_rfl) (by kernel_rfl) (by kernel_rfl) (by kernel_rfl)) ?_
  intro W base args ds gs before hval0 hW hcnd _
  have hval : ∀ (j : Nat) t v, Try.f9.params[j]? = some t → args[j]? = some v → Value.okWide Try.prog W .any base t v := hval0
  have hW' := hW
  obtain ⟨p, q, hA0, hV, rfl, hfz, hnd⟩ := hW
  have hA : DataW.TrodAll enc Try.prog W 0 (fun _ => true) true Try.f9.params.toList args.toList ds p := hA0
  rw [Try.params9] at hA hval
  obtain ⟨hargs, rfl, rfl⟩ := trodAll_nil hA
  obtain rfl : args = #[] := by cases args; simp_all
  obtain ⟨rfl, rfl⟩ := trodVars_none hV
  clear hA0 hval0
  refine (linksForms_walk  W ).mono fun e W' ⟨he, bel⟩ => ?_
  subst he
  exact ⟨_, rfl, _, _, _, [], _, [], hW', trodAll_mk1 (shut_bool Try.underlying4 _), trodAll_mk0, rfl, bel.frame _, fun h => by cases h⟩

theorem over : Rows.linksFormsRow.holds Try.pinned (OpenSpec.ofChange Rows.linksFormsSpec) :=
  OpenClaim.holds_of_wide 9 Try.f9 rfl rfl rfl rfl rfl rfl rfl ⟨rfl, rfl, rfl, rfl, rfl⟩ rfl rfl rfl rfl rfl (by kernel_rfl) Try.func9 (by kernel_rfl)
    (of_decide_eq_true (by kernel_rfl)) (by unfold Func.isWrapper; first | (rw [if_pos (by decide +kernel)]; kernel_rfl) | (rw [if_neg (by decide +kernel)]; exact ⟨rfl, rfl⟩))
    (fun os started H enc _ => lifted os started H enc)

/-- THE STATEMENT -/
theorem proved : Rows.LinksFormsSaid := over
#print axioms proved
end Go.Proofs.Ytggfemdgccgbpaa.linksForms

