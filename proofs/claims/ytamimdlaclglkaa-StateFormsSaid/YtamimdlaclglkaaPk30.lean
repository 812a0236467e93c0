import Derived.Test.YtamimdlaclglkaaPk29
import Derived.Test.YtamimdlaclglkaaPk9
/- cmd.Put and shortcutref17.PutCmd. -/
namespace Go.Proofs.Ytamimdlaclglkaa
set_option linter.unusedVariables false
set_option linter.unusedSimpArgs false
set_option linter.unnecessarySimpa false
set_option maxRecDepth 100000
open Go.RowKit
/-- what a function returns that makes bytes -/
def RetBs (w w' : World) (e : Ending) (l : Bytes) : Prop := ∃ (m : Bytes) (A : Option Addr) (c : Nat), Hid (m = l) ∧ e = .returned (.slice A m.length c) ∧ Bs w' (.slice A m.length c) m ∧ Ext w w'
theorem conv_bytes (W : World) (l : Bytes) (hl : l.length ≤ 140737488355328) : ∃ A c W', (convert 9 30 (str l)).run Try.prog W = .ok (.slice A l.length c) W' ∧ Bs W' (.slice A l.length c) l ∧ Ext W W' := by
  have hge := grownCap_ge W l.length 0 5
  have hle := grownCap_le_maxLen W l.length 0 5 (by simp [maxLen]; omega)
  have h := run_bytes_of_string (P := Try.prog) W 9 30 5 ⟨l.toArray⟩ Try.underlying9 Try.underlying30 Try.underlying5
  have hs : (ByteArray.mk l.toArray).size = l.length := by simp [ByteArray.size]
  rw [hs] at h
  have hx : Ext W (W.drew.alloc (.cells (bytesRow ⟨l.toArray⟩ (grownCap W l.length 0 5)) 5 ((bytesRow ⟨l.toArray⟩ (grownCap W l.length 0 5)).size, (bytesRow ⟨l.toArray⟩ (grownCap W l.length 0 5)).size + 1))) := ((Ext.rfl' W).drew').alloc' _
  refine ⟨_, _, _, h, ?_, hx⟩
  refine Bs.mk' rfl hge hle ⟨by simp, fun hn => ⟨_, rfl, ?_, fun j u hu => ?_⟩⟩
  · show W.heap.size < (W.heap.push _).size
    simp
  · have hadd : (⟨W.heap.size, 0, none⟩ : Addr).add j = ⟨W.heap.size, j, none⟩ := by unfold Addr.add; split <;> simp_all
    rw [hadd, cell_of_row (W.drew.alloc _) W.heap.size j _ _ _ (heap_alloc_new W.drew _)]
    have hj : j < (bv l).length := (List.getElem?_eq_some_iff.1 hu).1
    unfold bytesRow
    rw [Array.getElem?_append_left (by simpa using hj)]
    simpa [bv] using hu
theorem be1 (x : UInt8) : be 1 (x.toNat : Int).toNat = [x] := by
  simp [be]
theorem u8_of (k : Int) (h0 : 0 ≤ k) (h1 : k ≤ 255) : ∃ x : UInt8, k = x.toNat := by
  refine ⟨UInt8.ofNat k.toNat, ?_⟩
  have : (UInt8.ofNat k.toNat).toNat = k.toNat := by simp; omega
  rw [this]; omega
theorem wrap8 (x : UInt8) : IntKind.u8.wrap (x.toNat : Int) = x.toNat := by
  have : x.toNat < 256 := x.toNat_lt
  simp [IntKind.wrap, IntKind.bits, IntKind.signed]
  omega
theorem cbytes_eq (x y : UInt8) (seq : Int) (name url : Bytes) (till : Int) (m1 : Bytes) (h : m1 = oput [x, y] seq 8) :
    oput (oputBytes (oputBytes m1 name) url) till 8 = cbytes ⟨x.toNat, y.toNat, seq, name, url, till⟩ := by
  subst h
  simp only [cbytes, oput, oputBytes, be1]
  simp











































































































































































end Go.Proofs.Ytamimdlaclglkaa

