/- Numbers' text: the law. No condition but what the row lists. -/
import Derived.Test.YtimablpgikebgaaDoorVh3
import Derived.Test.YtimablpgikebgaaDoorVr1
import Derived.Test.YtimablpgikebgaaDoorWsd
namespace Go.Proofs.YtimablpgikebgaaDoor
open Go.RowKit Sl Flo Iee
set_option linter.unusedVariables false
set_option linter.unusedSimpArgs false
namespace Walk
theorem infoF : (Tryd.prog.info? 51).map (fun i => (i.zero, i.size, i.bytes)) = some (some (.float .f32 0), 1, 4) := by kernel_rfl
theorem mkF (n : Nat) (h : n ≤ 1048576) (w : World) : (Instr.makeSlice 28 (.int .i64 n) (.int .i64 n)).run Tryd.prog w = .ok (.slice (some ⟨w.heap.size, 0, none⟩) n n) (w.alloc (.cells (madeCells #[.float .f32 0] n) 51)) := by
  obtain ⟨i0, hi, hz0, hz1, hz2⟩ := info_parts infoF
  have := run_make (P := Tryd.prog) w 28 51 i0 (.float .f32 0) Tryd.underlying28 hi hz0 .i64 .i64 n n (by omega) (Int.le_refl _) (by rw [hz2]; omega) (by omega)
  rw [hz1] at this
  simpa [Value.cells] using this
set_option maxHeartbeats 400000 in
theorem toF (a : Option Addr) (len cap : Nat) (xs : List Nat) (w : World) (h : SlV (Value.float .f32) w a len xs) (hl : len ≤ 1048576) : Calls Tryd.prog 31 #[.slice a len cap] w (RetSl (Value.float .f32) len xs w) := by
  have hmk := mkF len hl
  have H := hid h
  clear h
  go_enter Tryd.func31, Tryd.ntmps31
  go_wp2
  have hst := hid (Cp.start (f := Value.float .f32) w len (.float .f32 0) 51 xs)
  go_loopw [4] (fun i wr => ∃ k : Nat, k ≤ len ∧ i = .int .i64 k ∧ Cp (Value.float .f32) w len (.float .f32 0) xs k wr) (fun i _ => len - (intOf i).toNat)
  case atStart => exact ⟨0, Nat.zero_le _, rfl, hst.out⟩
  case round =>
    obtain ⟨k, hk, rfl, hcp⟩ := hrel
    have HC := hid hcp
    by_cases hlt : k < len
    · obtain ⟨b, off, rfl, hb, hc⟩ := H.out.2 (by omega)
      have hc1 : wr.cell? ⟨b, off + k, none⟩ = some (.float .f32 (xs.getD k 0)) := by
        rw [hcp.below.cell (p := ⟨b, off + k, none⟩) hb]; exact hc k hlt
      have hc2 : wr.cell? ⟨w.heap.size, k, none⟩ = some (.float .f32 0) := by rw [hcp.cell k hlt, if_neg (by omega)]
      have hf2 := hcp.free k
      clear hcp hc
      go_wp2
      go_roundw
      case rel => exact ⟨k + 1, by omega, by go_num, by have := HC.out.step hlt; simpa using this⟩
      case measure => simp [intOf]; omega
    · obtain rfl : k = len := by omega
      clear hcp
      go_wp2
      go_ret
      exact ⟨_, rfl, HC.out.done H.out.1, HC.out.below⟩
theorem u51 : (Tryd.prog.underlying 51).isSome = true := by rw [Tryd.underlying51]; rfl
set_option maxHeartbeats 1000000 in
theorem eqF (a b : Option Addr) (len ca cb : Nat) (xs : List Nat) (w : World) (h : SlV (Value.float .f32) w a len xs) (g : SlV (Value.float .f32) w b len xs) (hw : ∀ x ∈ xs, (Lit.float .f32 x).wf = true) (hl : len ≤ 1048576) : Calls Tryd.prog 17 #[.slice a len ca, .slice b len cb] w fun e w' => e = .returned (.bool true) ∧ ∃ n, w' = w.drewN n := by
  have H := hid h
  have G := hid g
  have HW := hid hw
  clear h g hw
  go_enter Tryd.func17, Tryd.ntmps17
  go_wp2
  go_loopw [5] (fun i wr => ∃ k n : Nat, k ≤ len ∧ i = .int .i64 k ∧ wr = w.drewN n) (fun i _ => len - (intOf i).toNat)
  case atStart => exact ⟨0, 0, Nat.zero_le _, rfl, rfl⟩
  case round =>
    obtain ⟨k, n, hk, rfl, rfl⟩ := hrel
    by_cases hlt : k < len
    · obtain ⟨b1, off1, rfl, hb1, hc1⟩ := H.out.2 (by omega)
      obtain ⟨b2, off2, rfl, hb2, hc2⟩ := G.out.2 (by omega)
      have hd1 : w.cell? ⟨b1, off1 + k, none⟩ = some (.float .f32 (xs.getD k 0)) := hc1 k hlt
      have hd2 : w.cell? ⟨b2, off2 + k, none⟩ = some (.float .f32 (xs.getD k 0)) := hc2 k hlt
      have HF : Fits .f32 (xs.getD k 0) := by
        have hkl : k < xs.length := by rw [H.out.1]; exact hlt
        refine fits_of_wf (HW.out _ ?_)
        rw [List.getD_eq_getElem?_getD, List.getElem?_eq_getElem hkl]
        exact List.getElem_mem hkl
      generalize xs.getD k 0 = x at *
      clear hc1 hc2
      obtain ⟨cv, hcv⟩ := pick_fconv Tryd.prog 51 54 .f32 .f64 u51 Tryd.underlying54
      have hcv1 := fun w => (hcv x HF w).1
      have HCV : Hid (∀ w, Sim .f64 (cv x w).1 (fconv .f32 x .f64)) := hid fun w => (hcv x HF w).2.1 (over_up x)
      clear hcv
      go_wp2_with fail
      go_region_with (go_at_call 40; refine (sameFloat _ _ _ (Sim.trans (HCV.out _) (Sim.symm (HCV.out _)))).mono ?_; rintro e w' ⟨rfl, n, rfl⟩)
      all_goals (go_wp2_with fail; exact ⟨⟨k + 1, _, by omega, by go_num, rfl⟩, by simp [intOf]; omega⟩)
    · obtain rfl : k = len := by omega
      go_wp2
      go_ret
      exact ⟨rfl, _, rfl⟩
/-! ### the plain side -/
def hexs (zs : List Nat) : List (List UInt8) := zs.map fun x => hexW 8 (bo x)
def txtL (L : List (List UInt8)) : List UInt8 := if L = [] then [110, 111, 110, 101] else Lib.join L [44]
def ntx (zs : List Nat) (len : Nat) : List UInt8 × Bool := if len ≤ 256 then (txtL (hexs zs), true) else ([], false)
theorem hexs_at (zs : List Nat) (k : Nat) (hk : k < zs.length) : (hexs zs)[k]? = some (hexW 8 (bo (zs.getD k 0))) := by
  unfold hexs
  rw [List.getElem?_map, List.getElem?_eq_getElem hk, List.getD_eq_getElem?_getD, List.getElem?_eq_getElem hk]
  rfl
theorem ntx_one (zs : List Nat) (h : 0 < zs.length) : Lib.join ((hexs zs).take 1) [44] = hexW 8 (bo (zs.getD 0 0)) := by
  cases zs with
  | nil => simp at h
  | cons z r => simp [hexs, Lib.join_one]
theorem join_step (L : List (List UInt8)) (k : Nat) (x : List UInt8) (h1 : 1 ≤ k) (hx : L[k]? = some x) : Lib.join (L.take (k + 1)) [44] = Lib.join (L.take k) [44] ++ ([44] ++ x) := by
  cases L with
  | nil => simp at hx
  | cons z r =>
    obtain ⟨j, rfl⟩ : ∃ j, k = j + 1 := ⟨k - 1, by omega⟩
    rw [List.take_succ_cons, List.take_succ_cons, Lib.join_cons, Lib.join_cons]
    rw [Lib.joinTail_take_succ [44] r j x (by simpa using hx)]
    simp [List.append_assoc]
theorem joinL_len (L : List (List UInt8)) (m : Nat) (h : ∀ x ∈ L, x.length ≤ m) : (Lib.join L [44]).length ≤ (m + 1) * L.length := by
  have hl : ∀ n, n ≤ L.length → 1 ≤ n → (Lib.join (L.take n) [44]).length ≤ (m + 1) * n := by
    intro n
    induction n with
    | zero => intro _ h0; omega
    | succ n ih =>
      intro hn _
      have hx : L[n]? = some L[n] := List.getElem?_eq_getElem (by omega)
      have hm := h L[n] (List.getElem_mem (by omega))
      by_cases h0 : n = 0
      · subst h0
        cases L with
        | nil => simp at hn
        | cons z r => simpa [Lib.join_one] using Nat.le_trans hm (Nat.le_succ m)
      · rw [join_step L n _ (by omega) hx, List.length_append, List.length_append]
        have := ih (by omega) (by omega)
        simp only [List.length_cons, List.length_nil]
        rw [Nat.mul_succ]
        omega
  by_cases h0 : L.length = 0
  · rw [List.eq_nil_of_length_eq_zero h0]
    exact Nat.zero_le _
  · have := hl L.length (Nat.le_refl _) (by omega)
    rwa [List.take_of_length_le (Nat.le_refl _)] at this
theorem hexs_len (zs : List Nat) : (Lib.join (hexs zs) [44]).length ≤ 9 * zs.length := by
  have := joinL_len (hexs zs) 8 (fun x hx => by
    unfold hexs at hx
    obtain ⟨y, _, rfl⟩ := List.mem_map.1 hx
    rw [hexW_length]
    exact Nat.le_refl _)
  simpa [hexs] using this
theorem joinedL (B : Nat) (v : Value) (L : List (List UInt8)) (w : World) (h : OwnS B w v (strsB L)) (hL : L.length ≤ 2000000) (hj0 : (Lib.join L [44]).length ≤ 140737488355328) : Calls Tryd.prog 53 #[v] w fun e w' => e = .returned (.string ⟨(txtL L).toArray⟩) ∧ Below w.heap.size w w' := by
  obtain ⟨g, cap, rfl, hg⟩ := h.lt
  obtain ⟨h1, h2, h3⟩ := h.cells
  have hsl : (strsB L).length = L.length := strsB_length L
  have hsd : (strsB L).map (·.data.toList) = L := by
    unfold strsB
    rw [List.map_map]
    exact List.map_id L
  by_cases h0 : L.length = 0
  · have HE : Hid (txtL L = [110, 111, 110, 101]) := hid (by rw [txtL, if_pos (List.eq_nil_of_length_eq_zero h0)])
    rw [hsl, h0]
    clear h h1 h2 h3
    go_enter Tryd.func53, Tryd.ntmps53
    go_wp2_with fail
    go_ret
    exact ⟨by rw [HE.out]; rfl, Below.refl _ _⟩
  · have HT : Hid (txtL L = Lib.join ((strsB L).map (·.data.toList)) [44]) := hid (by rw [hsd, txtL, if_neg (by intro e; rw [e] at h0; exact h0 rfl)])
    have hj := Tryd.strings_Join g 0 cap (strsB L) (⟨#[44]⟩ : ByteArray) w h3 h1 (by rw [hsl]; omega) h2 (by
      rw [hsd]
      exact hj0)
    obtain ⟨m, hm⟩ : ∃ m, (strsB L).length = m := ⟨_, rfl⟩
    rw [hm] at hj ⊢
    have hm0 : ((m : Int) == 0) = false := by simp; omega
    obtain ⟨t, ht⟩ : ∃ t : ByteArray, (⟨(Lib.join ((strsB L).map (·.data.toList)) [44]).toArray⟩ : ByteArray) = t := ⟨_, rfl⟩
    have hj2 : Calls Tryd.prog 69 #[.slice (some ⟨g, 0, none⟩) m cap, .string ⟨#[44]⟩] w fun e w' => e = .returned (.string t) ∧ Below w.heap.size w w' := by rw [← ht]; exact hj
    have HJ := hid hj2
    have HTT : Hid ((⟨(txtL L).toArray⟩ : ByteArray) = t) := hid (by rw [HT.out]; exact ht)
    clear hj hj2 ht h h1 h2 h3 hm hj0
    go_enter Tryd.func53, Tryd.ntmps53
    go_wp2_with fail
    refine HJ.out.mono ?_
    rintro e w1 ⟨rfl, hb⟩
    have HB := hid hb
    clear hb
    go_wp2_with fail
    go_ret
    exact ⟨by rw [HTT.out]; rfl, HB.out⟩
def AllF (zs : List Nat) : Prop := ∀ k, k < zs.length → zs.getD k 0 < 4294967296
theorem hexw_size (x : Nat) : (⟨(hexW 8 x).toArray⟩ : ByteArray).size = 8 := hexW_length 8 x
set_option maxHeartbeats 1000000 in
theorem l01NText (a : Option Addr) (len cap : Nat) (zs : List Nat) (w : World) (h : SlV (Value.float .f32) w a len zs) (hf : AllF zs) (hl : len ≤ 256) : Calls Tryd.prog 51 #[.slice a len cap] w fun e w' => e = .returned (.string ⟨(txtL (hexs zs)).toArray⟩) ∧ Below w.heap.size w w' := by
  have H := hid h
  have HOK := hid hf
  have HLE := hid h.1
  have hhl : (hexs zs).length = zs.length := by simp [hexs]
  have HHL := hid hhl
  clear h hf hhl
  by_cases h0 : len = 0
  · have HE : Hid (txtL (hexs zs) = [110, 111, 110, 101]) := hid (by rw [txtL, if_pos (List.eq_nil_of_length_eq_zero (by rw [HHL.out, HLE.out, h0]))])
    subst h0
    go_enter Tryd.func51, Tryd.ntmps51
    go_wp2_with fail
    go_ret
    exact ⟨by rw [HE.out]; rfl, Below.refl _ _⟩
  · have HT : Hid (txtL (hexs zs) = Lib.join (hexs zs) [44]) := hid (by rw [txtL, if_neg (by intro e; have := HHL.out; rw [e] at this; exact h0 (by rw [← HLE.out, ← this]; rfl))])
    obtain ⟨b, off, rfl, hb, hc⟩ := H.out.2 (by omega)
    have hc0 : w.cell? ⟨b, off, none⟩ = some (.float .f32 (zs.getD 0 0)) := hc 0 (by omega)
    obtain ⟨x, hx⟩ : ∃ x, zs.getD 0 0 = x := ⟨_, rfl⟩
    have HI := hid (HOK.out 0 (by rw [HLE.out]; omega))
    rw [hx] at hc0 HI
    have HX := hid hx
    clear hc hx
    go_enter Tryd.func51, Tryd.ntmps51
    go_wp2_with fail
    refine (l01Hex x HI.out _).mono ?_
    rintro e w1 ⟨rfl, hb1⟩
    have HB := hid hb1
    obtain ⟨t1, ht1⟩ : ∃ t : ByteArray, (⟨(hexW 8 (bo x)).toArray⟩ : ByteArray) = t := ⟨_, rfl⟩
    have HT1 : Hid ((⟨(Lib.join ((hexs zs).take 1) [44]).toArray⟩ : ByteArray) = t1) := hid (by rw [ntx_one zs (by rw [HLE.out]; omega), HX.out]; exact ht1)
    have HS1 : Hid (t1.size ≤ 9) := hid (by rw [← ht1, hexw_size]; decide)
    rw [ht1]
    clear hb1 ht1
    go_wp2_with fail
    go_loopw [3, 4] (fun v i wr => ∃ (k : Nat) (t : ByteArray), 1 ≤ k ∧ k ≤ len ∧ i = .int .i64 k ∧ v = .string t ∧ t.size ≤ 9 * k ∧ Hid ((⟨(Lib.join ((hexs zs).take k) [44]).toArray⟩ : ByteArray) = t) ∧ Below w.heap.size w wr) (fun _ i _ => len - (intOf i).toNat)
    case atStart => exact ⟨1, t1, Nat.le_refl _, by omega, rfl, rfl, HS1.out, HT1, HB.out⟩
    case round =>
      obtain ⟨k, t, h1, hk, rfl, rfl, hts, HTK, hbel⟩ := hrel
      by_cases hlt : k < len
      · obtain ⟨b', off', e1, hb', hc'⟩ := H.out.2 (by omega)
        injection e1 with e1
        injection e1 with e2 e3
        subst e2
        subst e3
        have hc1 : wr.cell? ⟨b, off + k, none⟩ = some (.float .f32 (zs.getD k 0)) := by rw [hbel.cell (p := ⟨b, off + k, none⟩) hb]; exact hc' k hlt
        obtain ⟨y, hy⟩ : ∃ x, zs.getD k 0 = x := ⟨_, rfl⟩
        have HI2 := hid (HOK.out k (by rw [HLE.out]; omega))
        have HAT := hid (hexs_at zs k (by rw [HLE.out]; exact hlt))
        rw [hy] at hc1 HI2 HAT
        have HBEL := hid hbel
        clear hc' hy hbel
        go_wp2_with fail
        refine (l01Hex y HI2.out _).mono ?_
        rintro e w2 ⟨rfl, hb2⟩
        have HB2 := hid (below_to HBEL.out hb2)
        obtain ⟨t2, ht2⟩ : ∃ t : ByteArray, (⟨(hexW 8 (bo y)).toArray⟩ : ByteArray) = t := ⟨_, rfl⟩
        have ht2s : t2.size = 8 := by rw [← ht2]; exact hexw_size _
        rw [ht2]
        have HT2 := hid ht2
        clear hb2 ht2
        go_wp2_with fail
        go_roundw
        case rel => exact ⟨k + 1, _, by omega, by omega, by go_num, rfl, by have e44 : (⟨#[44]⟩ : ByteArray).size = 1 := rfl; simp [e44]; omega, hid (by
          rw [join_step _ k _ h1 HAT.out, ← HTK.out, ← HT2.out, ← str_cat, ← str_cat]), HB2.out⟩
        case measure => simp [intOf]; omega
      · obtain rfl : k = len := by omega
        have HF : Hid ((⟨(txtL (hexs zs)).toArray⟩ : ByteArray) = t) := hid (by rw [HT.out, ← HTK.out, List.take_of_length_le (by rw [HHL.out, HLE.out]; exact Nat.le_refl _)])
        have HBEL := hid hbel
        clear hbel
        go_wp2_with fail
        go_ret
        exact ⟨by rw [HF.out]; rfl, HBEL.out⟩
end Walk
end Go.Proofs.YtimablpgikebgaaDoor
