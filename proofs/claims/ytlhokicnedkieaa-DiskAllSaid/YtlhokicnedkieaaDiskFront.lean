/- shortcutlaw21: front; what an operation is. -/
import Derived.Test.YtlhokicnedkieaaDiskApart
import Derived.Test.YtlhokicnedkieaaEnc
namespace Go.Proofs.Ytlhokicnedkieaa
set_option linter.unusedVariables false
set_option linter.unusedSimpArgs false
set_option linter.unnecessarySimpa false
set_option maxRecDepth 100000
open Go.RowKit
structure Opr where
  kind : Int
  n : Int
  part : Int
  b : Bytes
open Enc in
def opE : Enc Opr := (pair i64 (pair i64 (pair i64 (pair byts unit)))).map fun o => (o.kind, o.n, o.part, o.b, ())
theorem opE_size : opE.size = 4 := rfl
open Enc in
theorem opE_cells {w : World} {X : Avoid} {cs : List Value} {o : Opr} (h : opE.rep w X cs o) :
    ∃ v, cs = [.int .i64 o.kind, .int .i64 o.n, .int .i64 o.part, v] ∧ (-9223372036854775808 ≤ o.kind ∧ o.kind ≤ 9223372036854775807) ∧ (-9223372036854775808 ≤ o.n ∧ o.n ≤ 9223372036854775807) ∧ (-9223372036854775808 ≤ o.part ∧ o.part ≤ 9223372036854775807) ∧ BsX w X v o.b := by
  obtain ⟨c1, c2, rfl, ⟨rfl, h1⟩, c3, c4, rfl, ⟨rfl, h2⟩, c5, c6, rfl, ⟨rfl, h3⟩, c7, c8, rfl, ⟨v, rfl, h4⟩, h5⟩ := h
  have h5' : c8 = [] := h5
  subst h5'
  exact ⟨v, rfl, h1, h2, h3, h4⟩
open Enc in
theorem opE_opens : Opens 37 opE :=
  (opens_struct Try.underlying37 (by kernel_rfl) (.cons rfl (by kernel_rfl) (opens_int Try.underlying3 wf_i64) (.cons rfl (by kernel_rfl) (opens_int Try.underlying3 wf_i64) (.cons rfl (by kernel_rfl) (opens_int Try.underlying3 wf_i64)
    (.cons rfl (by kernel_rfl) (opens_bytes Try.underlying22 Try.underlying5 (by kernel_rfl)) (.nil _)))))).map _ fun ⟨a, b, c, d, _⟩ => ⟨⟨a, b, c, d⟩, rfl⟩
set_option maxHeartbeats 3200000 in
theorem front_b (g : Nat) (v y : Value) (d : Dk) (nb : Bytes) (last : Int) (w : World) (h : DiskAt w g v d) (hde : d.de = true) (hy : Bs w y nb) (ho : Off y [g]) (h1 : last ≤ d.b.length) (h2 : (d.b.length : Int) ≤ nb.length) (h3 : nb.take d.b.length = d.b) (hl : -9223372036854775808 ≤ last ∧ last ≤ 9223372036854775807) :
    Calls Try.prog 23 #[.pointer (some ⟨g, 0, none⟩), y, .int .i64 last] w fun e w' => e = .returned (.bool true) ∧ Chg [g] w w' := by
  obtain ⟨A, c, rfl, k1, k2, -⟩ := id hy
  obtain ⟨i0, hi0, hz0, hz1, hz2⟩ := info_parts ti5
  have hd := disk_dead g v d w h
  rw [hde] at hd
  have HD := hide hd
  clear hd hde
  have hle : d.b.length ≤ c := by omega
  go_enter Try.func23, Try.ntmps23
  go_wp2_with fail
  refine HD.out.mono ?_
  rintro e w1 ⟨rfl, rfl⟩
  go_wp2_with fail
  refine (disk_power g v d w h).mono ?_
  rintro e w1 ⟨rfl, v1, h4, hx1, hn1⟩
  replace h4 : DiskAt w1 g v1 ⟨d.b, d.b.length, d.ar, d.at_, d.pt, false⟩ := h4
  go_wp2_with fail
  refine (disk_read g v1 _ w1 h4 rfl).mono ?_
  rintro e w2 ⟨x, rfl, hx, hx2⟩
  replace hx : Nw w1 w2 x d.b := hx
  have h5 := h4.ext hx2
  obtain ⟨A2, c2, rfl, -, -⟩ := own_slice (id hx)
  have hyb := (hy.chg hx1 ho).ext hx2
  have hyf := hyb.front (k := d.b.length) (by omega)
  rw [h3] at hyf
  have st := fun {v : Value} {l : Bytes} (h : Bs w2 v l) (n : Nat) => run_str (P := Try.prog) (w := w2.drewN n) h Try.underlying22 Try.underlying5 Try.underlying9
  have s1 := st hx.bs
  have s2 := st hyf
  clear st
  have hsl := fun W => run_sl_h (P := Try.prog) (A := A) (n := nb.length) (c := c) (kh := .i64) Try.underlying22 hi0 hz1 d.b.length rfl hle W
  have H3 := hide h3
  clear h3
  go_wp2
  go_quiet ((go_at_call 17; exact Calls.quiet_of_same ((disk_synced g v1 _ _ (h5.drewN_ _)).mono fun _ _ h => ⟨h.1, h.2.symm⟩)))
  go_wp2
  go_ret
  exact ⟨rfl, (hx1.trans (hx2.chg _)).drewN nq⟩
end Go.Proofs.Ytlhokicnedkieaa
