/- Hexadecimal numerals of a number's bits: the reference's and the rebuild's. No condition but one cell of the table of trailing zeros. -/
import Derived.Test.YtimablpgikebgaaDoorVh1
import Derived.Test.YtimablpgikebgaaDoorRp0
import Derived.Test.YtimablpgikebgaaDoorVe2
namespace Go.Proofs.YtimablpgikebgaaDoor
open Go.RowKit
set_option linter.unusedVariables false
set_option linter.unusedSimpArgs false
namespace Walk
theorem formatInt16 (n : Nat) (hn : n < 4294967296) (w : World) (h : w.cell? ⟨6, 15, none⟩ = some (.int .u8 4)) : Calls Tryd.prog 45 #[.int .i64 n, .int .i64 16] w fun e w' => ∃ t, e = .returned (.string t) ∧ HexT n t ∧ Below w.heap.size w w' := by
  have HF := hid (formatBits n hn w h)
  have hw1 : IntKind.u64.wrap (n : Int) = n := IntWalk.u64_in _ (by omega)
  have hneg : decide ((n : Int) < 0) = false := by simp
  have HN := hid hn
  clear hn h
  have h64 : Calls Tryd.prog 64 #[.int .i64 n, .int .i64 16] w fun e w' => ∃ t, e = .returned (.string t) ∧ HexT n t ∧ Below w.heap.size w w' := by
    go_enter Tryd.func64, Tryd.ntmps64
    go_wp2_with fail
    refine HF.out.mono ?_
    rintro e w1 ⟨t, rfl, ht, hb⟩
    have HT := hid ht
    have HB := hid hb
    clear ht hb
    go_wp2_with fail
    go_ret
    exact ⟨t, rfl, HT.out, HB.out⟩
  have H64 := hid h64
  clear h64
  go_enter Tryd.func45, Tryd.ntmps45
  go_wp2_with fail
  refine H64.out.mono ?_
  rintro e w1 ⟨t, rfl, ht, hb⟩
  have HT := hid ht
  have HB := hid hb
  clear ht hb
  go_wp2_with fail
  go_ret
  exact ⟨t, rfl, HT.out, HB.out⟩
theorem rep48 : ∀ c, Lib.repeatL [48] c = List.replicate c (48 : UInt8)
  | 0 => rfl
  | c + 1 => by
    show [48] ++ Lib.repeatL [48] c = _
    rw [rep48 c]
    rfl
theorem f32bits (x : Nat) (w : World) : (callFunc 73 #[.float .f32 x]).run Tryd.prog w = .ok (.value (.int .u32 (x : Int))) w := by kernel_rfl
theorem rep0 (c : Nat) (hc : c ≤ 8) (w : World) : Calls Tryd.prog 68 #[.string ⟨#[48]⟩, .int .i64 c] w fun e w' => e = .returned (.string ⟨(List.replicate c (48 : UInt8)).toArray⟩) ∧ Below w.heap.size w w' := by
  by_cases h0 : c = 0
  · subst h0
    refine (Any.strings_Repeat_zero Tryd.lays105 (⟨#[48]⟩ : ByteArray) w).mono ?_
    rintro e w1 ⟨rfl, rfl⟩
    exact ⟨rfl, Below.refl _ _⟩
  · by_cases h1 : c = 1
    · subst h1
      refine (Any.strings_Repeat_one Tryd.lays105 (⟨#[48]⟩ : ByteArray) w).mono ?_
      rintro e w1 ⟨rfl, rfl⟩
      exact ⟨rfl, Below.refl _ _⟩
    · refine (Any.strings_Repeat_main Tryd.lays105 Tryd.Builder_Extra_105 (⟨#[48]⟩ : ByteArray) c w (by omega) (by omega) (by show 1 * c ≤ _; omega) (by decide)).mono ?_
      rintro e w1 ⟨rfl, hb⟩
      refine ⟨?_, hb⟩
      rw [show (⟨#[48]⟩ : ByteArray).data.toList = [48] from rfl, rep48]
def isN (x : Nat) : Bool := FloatKind.f32.format.order x x != some Ordering.eq
def bo (x : Nat) : Nat := if isN x = true then 2143289344 else x
theorem bo_lt {x : Nat} (h : x < 4294967296) : bo x < 4294967296 := by
  unfold bo
  split <;> omega
theorem bitsOf (x : Nat) (hx : x < 4294967296) (w : World) : Calls Tryd.prog 67 #[.float .f32 x] w fun e w' => e = .returned (.int .i64 (bo x : Nat)) ∧ w' = w := by
  have hf := f32bits x
  have hw : wrap64 (x : Int) = x := wr64 (by omega) (by omega)
  cases h : isN x with
  | true =>
    have HB : Hid (bo x = 2143289344) := hid (by unfold bo; rw [h]; rfl)
    unfold isN at h
    clear hx
    go_enter Tryd.func67, Tryd.ntmps67
    go_wp2
    go_ret
    exact ⟨by rw [HB.out]; rfl, rfl⟩
  | false =>
    have HB : Hid (bo x = x) := hid (by unfold bo; rw [h]; rfl)
    unfold isN at h
    clear hx
    go_enter Tryd.func67, Tryd.ntmps67
    go_wp2
    go_ret
    exact ⟨(congrArg (fun z => Ending.returned (Value.int .i64 z)) hw).trans (by rw [HB.out]), rfl⟩
theorem l01Bits (x : Nat) (hx : x < 4294967296) (w : World) : Calls Tryd.prog 59 #[.float .f32 x] w fun e w' => e = .returned (.int .i64 (bo x : Nat)) ∧ w' = w := by
  have hf := f32bits x
  have hw : wrap64 (x : Int) = x := wr64 (by omega) (by omega)
  cases h : isN x with
  | true =>
    have HB : Hid (bo x = 2143289344) := hid (by unfold bo; rw [h]; rfl)
    unfold isN at h
    clear hx
    go_enter Tryd.func59, Tryd.ntmps59
    go_wp2
    go_ret
    exact ⟨by rw [HB.out]; rfl, rfl⟩
  | false =>
    have HB : Hid (bo x = x) := hid (by unfold bo; rw [h]; rfl)
    unfold isN at h
    clear hx
    go_enter Tryd.func59, Tryd.ntmps59
    go_wp2
    go_ret
    exact ⟨(congrArg (fun z => Ending.returned (Value.int .i64 z)) hw).trans (by rw [HB.out]), rfl⟩
set_option maxHeartbeats 1000000 in
theorem hexOf (x : Nat) (hx : x < 4294967296) (w : World) (h : w.cell? ⟨6, 15, none⟩ = some (.int .u8 4)) : Calls Tryd.prog 52 #[.float .f32 x] w fun e w' => e = .returned (.string ⟨(hexW 8 (bo x)).toArray⟩) ∧ Below w.heap.size w w' := by
  have HB1 := hid (bitsOf x hx)
  have HF := hid (formatInt16 (bo x) (bo_lt hx) w h)
  clear hx h
  obtain ⟨n, hn⟩ : ∃ n, bo x = n := ⟨_, rfl⟩
  rw [hn] at HB1 HF ⊢
  clear hn
  go_enter Tryd.func52, Tryd.ntmps52
  go_wp2_with fail
  refine (HB1.out w).mono ?_
  rintro e w1 ⟨rfl, rfl⟩
  go_wp2_with fail
  refine HF.out.mono ?_
  rintro e w2 ⟨t, rfl, ⟨z, L, hzL, hL1, hW, ht⟩, hb⟩
  have HB := hid hb
  have hts : t.size = L.length := by rw [ht]; rfl
  have hz : (8 : Int) - (t.size : Int) = (z : Nat) := by rw [hts]; omega
  have hz8 : z ≤ 8 := by omega
  have htl : t.size ≤ 8 := by rw [hts]; omega
  have HT : Hid ((⟨(hexW 8 n).toArray⟩ : ByteArray) = (⟨(List.replicate z (48 : UInt8)).toArray⟩ : ByteArray) ++ t) := hid (by rw [hW, ht, str_cat])
  obtain ⟨r, hr⟩ : ∃ r : ByteArray, (⟨(List.replicate z (48 : UInt8)).toArray⟩ : ByteArray) = r := ⟨_, rfl⟩
  have hrs : r.size = z := by rw [← hr]; show (List.replicate z (48 : UInt8)).length = z; simp
  have hrep := rep0 z hz8 w2
  rw [hr] at hrep HT
  have HREP := hid hrep
  clear hb hts hzL hL1 hW ht hr hrep
  go_wp2_with fail
  refine HREP.out.mono ?_
  rintro e w3 ⟨rfl, hb⟩
  have HB3 := hid (below_to HB.out hb)
  clear hb
  go_wp2_with fail
  go_ret
  exact ⟨by rw [HT.out]; rfl, HB3.out⟩
end Walk
end Go.Proofs.YtimablpgikebgaaDoor
