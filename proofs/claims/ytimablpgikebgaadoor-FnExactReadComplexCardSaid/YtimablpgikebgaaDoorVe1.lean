/- Lists of numerals: copies, comparisons, the reference's and the rebuild's way of writing a list. No condition. -/
import Derived.Test.YtimablpgikebgaaDoorVd3
import Derived.Test.YtimablpgikebgaaDoorRowf
import Derived.Test.YtimablpgikebgaaDoorJn0
import Derived.Lib.Join
import Derived.Lib.AppendIntMem
import Derived.Deep.RegionWith
import Derived.BigRegion
namespace Go.Proofs.YtimablpgikebgaaDoor
open Go.RowKit Sl
set_option linter.unusedVariables false
set_option linter.unusedSimpArgs false
namespace Walk
theorem infoI : (Tryd.prog.info? 2).map (fun i => (i.zero, i.size, i.bytes)) = some (some (.int .i64 0), 1, 8) := by kernel_rfl
theorem infoS : (Tryd.prog.info? 9).map (fun i => (i.zero, i.size, i.bytes)) = some (some (.string ByteArray.empty), 1, 16) := by kernel_rfl
theorem mkI (n : Nat) (h : n ≤ 1048576) (w : World) : (Instr.makeSlice 22 (.int .i64 n) (.int .i64 n)).run Tryd.prog w = .ok (.slice (some ⟨w.heap.size, 0, none⟩) n n) (w.alloc (.cells (madeCells #[.int .i64 0] n) 2)) := by
  obtain ⟨i0, hi, hz0, hz1, hz2⟩ := info_parts infoI
  have := run_make (P := Tryd.prog) w 22 2 i0 (.int .i64 0) Tryd.underlying22 hi hz0 .i64 .i64 n n (by omega) (Int.le_refl _) (by rw [hz2]; omega) (by omega)
  rw [hz1] at this
  simpa [Value.cells] using this
set_option maxHeartbeats 400000 in
theorem toI (a : Option Addr) (len cap : Nat) (xs : List Int) (w : World) (h : SlV (Value.int .i64) w a len xs) (hl : len ≤ 1048576) : Calls Tryd.prog 28 #[.slice a len cap] w (RetSl (Value.int .i64) len xs w) := by
  have hmk := mkI len hl
  have H := hid h
  clear h
  go_enter Tryd.func28, Tryd.ntmps28
  go_wp2
  have hst := hid (Cp.start (f := Value.int .i64) w len (.int .i64 0) 2 xs)
  go_loopw [4] (fun i wr => ∃ k : Nat, k ≤ len ∧ i = .int .i64 k ∧ Cp (Value.int .i64) w len (.int .i64 0) xs k wr) (fun i _ => len - (intOf i).toNat)
  case atStart => exact ⟨0, Nat.zero_le _, rfl, hst.out⟩
  case round =>
    obtain ⟨k, hk, rfl, hcp⟩ := hrel
    have HC := hid hcp
    by_cases hlt : k < len
    · obtain ⟨b, off, rfl, hb, hc⟩ := H.out.2 (by omega)
      have hc1 : wr.cell? ⟨b, off + k, none⟩ = some (.int .i64 (xs.getD k 0)) := by
        rw [hcp.below.cell (p := ⟨b, off + k, none⟩) hb]; exact hc k hlt
      have hc2 : wr.cell? ⟨w.heap.size, k, none⟩ = some (.int .i64 0) := by rw [hcp.cell k hlt, if_neg (by omega)]
      have hf2 := hcp.free k
      clear hcp hc
      go_wp2
      go_roundw
      case rel => exact ⟨k + 1, by omega, by go_num, by have := HC.out.step hlt; simpa using this⟩
      case measure => simp [intOf]; omega
    · obtain rfl : k = len := by omega
      clear hcp
      go_wp2
      go_ret
      exact ⟨_, rfl, HC.out.done H.out.1, HC.out.below⟩
theorem eqI (a b : Option Addr) (len ca cb : Nat) (xs : List Int) (w : World) (h : SlV (Value.int .i64) w a len xs) (g : SlV (Value.int .i64) w b len xs) (hl : len ≤ 1048576) : Calls Tryd.prog 12 #[.slice a len ca, .slice b len cb] w fun e w' => e = .returned (.bool true) ∧ ∃ n, w' = w.drewN n := by
  have H := hid h
  have G := hid g
  clear h g
  go_enter Tryd.func12, Tryd.ntmps12
  go_wp2
  go_loopw [5] (fun i wr => ∃ k n : Nat, k ≤ len ∧ i = .int .i64 k ∧ wr = w.drewN n) (fun i _ => len - (intOf i).toNat)
  case atStart => exact ⟨0, 0, Nat.zero_le _, rfl, rfl⟩
  case round =>
    obtain ⟨k, n, hk, rfl, rfl⟩ := hrel
    by_cases hlt : k < len
    · obtain ⟨b1, off1, rfl, hb1, hc1⟩ := H.out.2 (by omega)
      obtain ⟨b2, off2, rfl, hb2, hc2⟩ := G.out.2 (by omega)
      have hd1 : w.cell? ⟨b1, off1 + k, none⟩ = some (.int .i64 (xs.getD k 0)) := hc1 k hlt
      have hd2 : w.cell? ⟨b2, off2 + k, none⟩ = some (.int .i64 (xs.getD k 0)) := hc2 k hlt
      generalize xs.getD k 0 = x at *
      clear hc1 hc2
      go_wp2_with fail
      go_region
      all_goals (go_wp2_with fail; exact ⟨⟨k + 1, _, by omega, by go_num, rfl⟩, by simp [intOf]; omega⟩)
    · obtain rfl : k = len := by omega
      go_wp2
      go_ret
      exact ⟨rfl, _, rfl⟩
/-! ### the plain side -/
def okAll (zs : List Int) : Bool := zs.all fun z => inB (-1000000000000000) 1000000000000000 z
def nums (zs : List Int) : List (List UInt8) := zs.map Lib.itoa
def txt (zs : List Int) : List UInt8 := if zs = [] then [110, 111, 110, 101] else Lib.join (nums zs) [44]
def ltx (zs : List Int) (len : Nat) : List UInt8 × Bool := if (okAll zs && decide (len ≤ 64)) = true then (txt zs, true) else ([], false)
theorem okAll_at {zs : List Int} (h : okAll zs = true) {k : Nat} (hk : k < zs.length) : inB (-1000000000000000) 1000000000000000 (zs.getD k 0) = true := by
  unfold okAll at h
  rw [List.all_eq_true] at h
  refine h _ ?_
  rw [List.getD_eq_getElem?_getD, List.getElem?_eq_getElem hk]
  exact List.getElem_mem hk
theorem okAll_of {zs : List Int} (h : ∀ k, k < zs.length → inB (-1000000000000000) 1000000000000000 (zs.getD k 0) = true) : okAll zs = true := by
  unfold okAll
  rw [List.all_eq_true]
  intro x hx
  obtain ⟨k, hk, rfl⟩ := List.mem_iff_getElem.1 hx
  have := h k hk
  rw [List.getD_eq_getElem?_getD, List.getElem?_eq_getElem hk] at this
  exact this
theorem okAll_no {zs : List Int} {k : Nat} (hk : k < zs.length) (h : inB (-1000000000000000) 1000000000000000 (zs.getD k 0) = false) : okAll zs = false := by
  cases ho : okAll zs with
  | false => rfl
  | true => rw [okAll_at ho hk] at h; cases h
theorem inB_iff {x : Int} (h : inB (-1000000000000000) 1000000000000000 x = true) : -1000000000000000 ≤ x ∧ x ≤ 1000000000000000 := by
  unfold inB at h
  simpa using h
theorem txt_one (zs : List Int) (h : 0 < zs.length) : Lib.join (nums (zs.take 1)) [44] = Lib.itoa (zs.getD 0 0) := by
  cases zs with
  | nil => simp at h
  | cons z r => simp [nums, Lib.join_one]
theorem txt_step (zs : List Int) (k : Nat) (h1 : 1 ≤ k) (hk : k < zs.length) : Lib.join (nums (zs.take (k + 1))) [44] = Lib.join (nums (zs.take k)) [44] ++ ([44] ++ Lib.itoa (zs.getD k 0)) := by
  cases zs with
  | nil => simp at hk
  | cons z r =>
    obtain ⟨j, rfl⟩ : ∃ j, k = j + 1 := ⟨k - 1, by omega⟩
    have hj : j < r.length := by simpa using hk
    unfold nums
    rw [List.take_succ_cons, List.take_succ_cons, List.map_cons, List.map_cons, Lib.join_cons, Lib.join_cons, List.map_take, List.map_take]
    rw [Lib.joinTail_take_succ [44] (r.map Lib.itoa) j (Lib.itoa (r.getD j 0)) (by rw [List.getElem?_map, List.getD_eq_getElem?_getD, List.getElem?_eq_getElem hj]; rfl)]
    have e : (z :: r).getD (j + 1) 0 = r.getD j 0 := rfl
    rw [e]
    simp [List.append_assoc]
theorem str_cat (l m : List UInt8) : (⟨l.toArray⟩ : ByteArray) ++ (⟨m.toArray⟩ : ByteArray) = ⟨(l ++ m).toArray⟩ := by
  apply ByteArray.ext
  simp
theorem itoa_size (x : Int) (h : -1000000000000000 ≤ x ∧ x ≤ 1000000000000000) : (⟨(Lib.itoa x).toArray⟩ : ByteArray).size ≤ 21 := by
  have := Lib.itoa_length_le x (by omega) (by omega)
  exact this
/-! ### the reference's -/
theorem l01List (a : Option Addr) (len cap : Nat) (zs : List Int) (w : World) (h : SlV (Value.int .i64) w a len zs) (hl : len ≤ 1048576) : Calls Tryd.prog 46 #[.slice a len cap] w fun e w' => e = .returned (.bool (okAll zs && decide (len ≤ 64))) ∧ w' = w := by
  have H := hid h
  clear h
  go_enter Tryd.func46, Tryd.ntmps46
  go_wp2_with fail
  go_loop [3] (fun i => ∃ k : Nat, k ≤ len ∧ i = .int .i64 k ∧ ∀ j, j < k → inB (-1000000000000000) 1000000000000000 (zs.getD j 0) = true) (fun i => len - (intOf i).toNat)
  case atStart => exact ⟨0, Nat.zero_le _, rfl, fun j hj => absurd hj (Nat.not_lt_zero _)⟩
  case round =>
    obtain ⟨k, hk, rfl, hok⟩ := hrel
    have HOK := hid hok
    clear hok
    by_cases hlt : k < len
    · obtain ⟨b, off, rfl, hb, hc⟩ := H.out.2 (by omega)
      have hc1 : w.cell? ⟨b, off + k, none⟩ = some (.int .i64 (zs.getD k 0)) := hc k hlt
      obtain ⟨x, hx⟩ : ∃ x, zs.getD k 0 = x := ⟨_, rfl⟩
      have HX := hid hx
      rw [hx] at hc1
      clear hc hx
      go_wp2_with fail
      refine (l00In x (-1000000000000000) 1000000000000000 w).mono ?_
      rintro e w1 ⟨he, rfl⟩
      cases hin : inB (-1000000000000000) 1000000000000000 x with
      | true =>
        rw [hin] at he
        subst he
        have HIN := hid hin
        clear hin
        go_wp2_with fail
        go_round
        case rel => exact ⟨k + 1, by omega, by go_num, fun j hj => by
          by_cases e : j = k
          · rw [e, HX.out]; exact HIN.out
          · exact HOK.out j (by omega)⟩
        case measure => simp [intOf]; omega
      | false =>
        rw [hin] at he
        subst he
        have HNO : Hid (okAll zs = false) := hid (okAll_no (k := k) (by rw [H.out.1]; exact hlt) (by rw [HX.out]; exact hin))
        clear hin
        go_wp2_with fail
        go_ret
        exact ⟨by rw [HNO.out]; rfl, rfl⟩
    · obtain rfl : k = len := by omega
      have HYES : Hid (okAll zs = true) := hid (okAll_of (by rw [H.out.1]; exact HOK.out))
      go_wp2_with fail
      go_ret
      exact ⟨by rw [HYES.out]; simp; omega, rfl⟩
set_option maxHeartbeats 1000000 in
theorem l01Text (a : Option Addr) (len cap : Nat) (zs : List Int) (w : World) (h : SlV (Value.int .i64) w a len zs) (hok : okAll zs = true) (hl : len ≤ 64) : Calls Tryd.prog 47 #[.slice a len cap] w fun e w' => e = .returned (.string ⟨(txt zs).toArray⟩) ∧ Below w.heap.size w w' := by
  have H := hid h
  have HOK := hid hok
  have HLE := hid h.1
  clear h hok
  by_cases h0 : len = 0
  · have HE : Hid (txt zs = [110, 111, 110, 101]) := hid (by rw [txt, if_pos (List.eq_nil_of_length_eq_zero (by rw [HLE.out, h0]))])
    subst h0
    go_enter Tryd.func47, Tryd.ntmps47
    go_wp2_with fail
    go_ret
    exact ⟨by rw [HE.out]; rfl, Below.refl _ _⟩
  · have HT : Hid (txt zs = Lib.join (nums zs) [44]) := hid (by rw [txt, if_neg (by intro e; rw [e] at HLE; exact h0 HLE.out.symm)])
    obtain ⟨b, off, rfl, hb, hc⟩ := H.out.2 (by omega)
    have hc0 : w.cell? ⟨b, off, none⟩ = some (.int .i64 (zs.getD 0 0)) := hc 0 (by omega)
    obtain ⟨x, hx⟩ : ∃ x, zs.getD 0 0 = x := ⟨_, rfl⟩
    have hi := inB_iff (okAll_at HOK.out (k := 0) (by rw [HLE.out]; omega))
    have HI := hid hi
    rw [hx] at hc0 HI
    have HX := hid hx
    clear hc hi hx
    go_enter Tryd.func47, Tryd.ntmps47
    go_wp2_with fail
    refine (l01Dec x (by have := HI.out; omega) (by have := HI.out; omega) _).mono ?_
    rintro e w1 ⟨rfl, hb1⟩
    have HB := hid hb1
    have HT1 : Hid (Lib.itoa x = Lib.join (nums (zs.take 1)) [44]) := hid (by rw [txt_one zs (by rw [HLE.out]; omega), HX.out])
    rw [HT1.out]
    obtain ⟨t1, ht1⟩ : ∃ t : ByteArray, (⟨(Lib.join (nums (zs.take 1)) [44]).toArray⟩ : ByteArray) = t := ⟨_, rfl⟩
    rw [ht1]
    have HTT := hid ht1
    clear hb1 ht1
    go_wp2_with fail
    go_loopw [3, 4] (fun v i wr => ∃ (k : Nat) (t : ByteArray), 1 ≤ k ∧ k ≤ len ∧ i = .int .i64 k ∧ v = .string t ∧ t.size ≤ 22 * k ∧ Hid ((⟨(Lib.join (nums (zs.take k)) [44]).toArray⟩ : ByteArray) = t) ∧ Below w.heap.size w wr) (fun _ i _ => len - (intOf i).toNat)
    case atStart => exact ⟨1, t1, Nat.le_refl _, by omega, rfl, rfl, by rw [← HTT.out, ← HT1.out]; exact Nat.le_trans (itoa_size x HI.out) (by omega), HTT, HB.out⟩
    case round =>
      obtain ⟨k, t, h1, hk, rfl, rfl, hts, HTK, hbel⟩ := hrel
      by_cases hlt : k < len
      · obtain ⟨b', off', e1, hb', hc'⟩ := H.out.2 (by omega)
        injection e1 with e1
        injection e1 with e2 e3
        subst e2
        subst e3
        have hc1 : wr.cell? ⟨b, off + k, none⟩ = some (.int .i64 (zs.getD k 0)) := by rw [hbel.cell (p := ⟨b, off + k, none⟩) hb]; exact hc' k hlt
        obtain ⟨y, hy⟩ : ∃ x, zs.getD k 0 = x := ⟨_, rfl⟩
        have HI2 := hid (inB_iff (okAll_at HOK.out (k := k) (by rw [HLE.out]; omega)))
        rw [hy] at hc1 HI2
        have HY := hid hy
        have HBEL := hid hbel
        clear hc' hy hbel
        go_wp2_with fail
        refine (l01Dec y (by have := HI2.out; omega) (by have := HI2.out; omega) _).mono ?_
        rintro e w2 ⟨rfl, hb2⟩
        have HB2 := hid (below_to HBEL.out hb2)
        obtain ⟨t2, ht2⟩ : ∃ t : ByteArray, (⟨(Lib.itoa y).toArray⟩ : ByteArray) = t := ⟨_, rfl⟩
        rw [ht2]
        have HT2 := hid ht2
        have ht2s : t2.size ≤ 21 := by rw [← ht2]; exact itoa_size y HI2.out
        clear hb2 ht2
        go_wp2_with fail
        go_roundw
        case rel => exact ⟨k + 1, _, by omega, by omega, by go_num, rfl, by have e44 : (⟨#[44]⟩ : ByteArray).size = 1 := rfl; simp [e44]; omega, hid (by
          rw [txt_step zs k h1 (by rw [HLE.out]; exact hlt), HY.out, ← HTK.out, ← HT2.out, ← str_cat, ← str_cat]), HB2.out⟩
        case measure => simp [intOf]; omega
      · obtain rfl : k = len := by omega
        have HF : Hid ((⟨(txt zs).toArray⟩ : ByteArray) = t) := hid (by rw [HT.out, ← HTK.out, List.take_of_length_le (by rw [HLE.out]; exact Nat.le_refl _)])
        have HBEL := hid hbel
        clear hbel
        go_wp2_with fail
        go_ret
        exact ⟨by rw [HF.out]; rfl, HBEL.out⟩
end Walk
end Go.Proofs.YtimablpgikebgaaDoor
