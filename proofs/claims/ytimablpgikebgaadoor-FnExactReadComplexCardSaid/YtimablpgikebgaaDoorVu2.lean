/- Hexadecimal numerals read: the rebuild's. No condition but the library's error value. -/
import Derived.Test.YtimablpgikebgaaDoorVu1
import Derived.Test.YtimablpgikebgaaDoorTe0
import Derived.Test.YtimablpgikebgaaDoorVh5
import Derived.Test.YtimablpgikebgaaDoorVr3
namespace Go.Proofs.YtimablpgikebgaaDoor
open Go.RowKit
set_option linter.unusedVariables false
set_option linter.unusedSimpArgs false
namespace Walk
/-- What reading eight hexadecimal digits gives; 0 where there is a byte that is none. -/
def rd (l : List UInt8) : Nat := if (l.all fun c => decide (hd c < 16)) = true then fh l else 0
theorem all_of {l : List UInt8} (hl : l.length = 8) (h : ∀ j, j < 8 → hd (l.getD j 0) < 16) : (l.all fun c => decide (hd c < 16)) = true := by
  rw [List.all_eq_true]
  intro x hx
  obtain ⟨k, hk, rfl⟩ := List.mem_iff_getElem.1 hx
  have := h k (by omega)
  rw [List.getD_eq_getElem?_getD, List.getElem?_eq_getElem hk] at this
  simpa using this
theorem all_no {l : List UInt8} (hl : l.length = 8) {j : Nat} (hj : j < 8) (h : 16 ≤ hd (l.getD j 0)) : (l.all fun c => decide (hd c < 16)) = false := by
  cases ha : (l.all fun c => decide (hd c < 16)) with
  | false => rfl
  | true =>
    rw [List.all_eq_true] at ha
    have := ha (l[j]'(by omega)) (List.getElem_mem _)
    rw [List.getD_eq_getElem?_getD, List.getElem?_eq_getElem (by omega)] at h
    simp at this
    simp at h
    omega
theorem frombits (n : Int) (w : World) : (callFunc 62 #[.int .u32 n]).run Tryd.prog w = .ok (.value (.float .f32 n.toNat)) w := by kernel_rfl
theorem gES : Tryd.prog.globalNamed "strconv.ErrSyntax" = some 2 := by kernel_rfl
set_option maxRecDepth 100000 in
set_option maxHeartbeats 1000000 in
theorem readHex (t : ByteArray) (ht : t.size = 8) (w : World) (he : ErrAt w "strconv.ErrSyntax") : Calls Tryd.prog 39 #[.string t] w fun e w' => e = .returned (.float .f32 (rd t.data.toList)) ∧ rd t.data.toList < 4294967296 ∧ Below w.heap.size w w' := by
  have HP := hid (parse16 t ht w)
  have HE := hid he
  have HL : Hid (t.data.toList.length = 8) := hid ht
  have hts : Hid (t.size ≤ 281474976710656) := hid (by omega)
  have hpu : Calls Tryd.prog 61 #[.string t, .int .i64 16, .int .i64 32] w fun e w' => (∃ err, e = .returned (.tuple #[.int .u64 (rd t.data.toList : Nat), err])) ∧ rd t.data.toList < 4294967296 ∧ Below w.heap.size w w' := by
    clear he
    go_enter Tryd.func61, Tryd.ntmps61
    go_wp2_with fail
    refine HP.out.mono ?_
    rintro e w1 ⟨⟨v, err, rfl, hv, hcase⟩, hb⟩
    have HB := hid hb
    have HV := hid hv
    clear hb hv
    rcases hcase with ⟨hall, hvf, rfl⟩ | ⟨hv0, ⟨j, hj, hd16⟩, rfl⟩
    · have HR : Hid (rd t.data.toList = v) := hid (by unfold rd; rw [all_of HL.out hall, if_pos rfl, hvf])
      clear hall hvf
      go_wp2_with fail
      go_ret2
      exact ⟨⟨_, by rw [HR.out]; rfl⟩, by rw [HR.out]; exact HV.out, HB.out⟩
    · have HR : Hid (rd t.data.toList = v) := hid (by unfold rd; rw [all_no HL.out hj hd16, if_neg (by decide), hv0])
      clear hv0 hd16
      obtain ⟨tp, p, hvar⟩ := HE.out.on HB.out
      have hcell := World.var?_cell gES hvar 0
      have HTE := hid (Any.strconv_toError_syntax Tryd.laysC245 (⟨#[80, 97, 114, 115, 101, 85, 105, 110, 116]⟩ : ByteArray) t 16 32 (.iface tp p) w1 hts.out (show w1.cell? ⟨2, 0, none⟩ = some (.iface tp p) by simpa using hcell) (Or.inr ⟨tp, p, rfl⟩))
      clear hvar hcell
      go_wp2_with fail
      refine HTE.out.mono ?_
      rintro e w2 ⟨N, rfl, -, -, hb2⟩
      have HB2 := hid (below_to HB.out hb2)
      clear hb2
      go_wp2_with fail
      go_ret2
      exact ⟨⟨_, by rw [HR.out]; rfl⟩, by rw [HR.out]; exact HV.out, HB2.out⟩
  have HPU := hid hpu
  have hfb := frombits
  clear hpu he HP
  obtain ⟨r, hr⟩ : ∃ r, rd t.data.toList = r := ⟨_, rfl⟩
  rw [hr] at HPU ⊢
  clear hr
  go_enter Tryd.func39, Tryd.ntmps39
  go_wp2_with fail
  refine HPU.out.mono ?_
  rintro e w1 ⟨⟨err, rfl⟩, hr32, hb⟩
  have HB := hid hb
  have HR := hid hr32
  have hwr : IntKind.u32.wrap (r : Int) = r := IntWalk.u32_in _ (by omega)
  clear hb hr32
  go_wp2_with fail
  go_ret
  exact ⟨rfl, HR.out, HB.out⟩
end Walk
end Go.Proofs.YtimablpgikebgaaDoor
