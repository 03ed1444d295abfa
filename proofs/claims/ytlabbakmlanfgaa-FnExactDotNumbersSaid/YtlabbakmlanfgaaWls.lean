/- The laws on sums and products of lists. No condition. -/
import Derived.Test.YtlabbakmlanfgaaWbase
import Derived.Test.YtlabbakmlanfgaaRowf
import Derived.Deep.RegionWith
import Derived.BigRegion
namespace Go.Proofs.Ytlabbakmlanfgaa
open Go.RowKit Flo Iee Sl
set_option linter.unusedVariables false
namespace TryWalk
theorem info22 : (Try.prog.info? 22).map (fun i => (i.zero, i.size, i.bytes)) = some (some (.float .f32 0), 1, 4) := by kernel_rfl
theorem mk32 (n : Nat) (h : n ≤ 1048576) (w : World) : (Instr.makeSlice 27 (.int .i64 n) (.int .i64 n)).run Try.prog w = .ok (.slice (some ⟨w.heap.size, 0, none⟩) n n) (w.alloc (.cells (madeCells #[.float .f32 0] n) 22)) := by
  obtain ⟨i0, hi, hz0, hz1, hz2⟩ := info_parts info22
  have := run_make (P := Try.prog) w 27 22 i0 (.float .f32 0) Try.underlying27 hi hz0 .i64 .i64 n n (by omega) (Int.le_refl _) (by rw [hz2]; omega) (by omega)
  rw [hz1] at this
  simpa [Value.cells] using this
set_option maxHeartbeats 400000 in
theorem toF (a : Option Addr) (len cap : Nat) (xs : List Nat) (w : World) (h : SlV (Value.float .f32) w a len xs) (hl : len ≤ 1048576) : Calls Try.prog 19 #[.slice a len cap] w (RetSl (Value.float .f32) len xs w) := by
  have hmk := mk32 len hl
  have H := hid h
  clear h
  go_enter Try.func19, Try.ntmps19
  go_wp2
  have hst := hid (Cp.start (f := Value.float .f32) w len (.float .f32 0) 22 xs)
  go_loopw [4] (fun i wr => ∃ k : Nat, k ≤ len ∧ i = .int .i64 k ∧ Cp (Value.float .f32) w len (.float .f32 0) xs k wr) (fun i _ => len - (intOf i).toNat)
  case atStart => exact ⟨0, Nat.zero_le _, rfl, hst.out⟩
  case round =>
    obtain ⟨k, hk, rfl, hcp⟩ := hrel
    have HC := hid hcp
    by_cases hlt : k < len
    · obtain ⟨b, off, rfl, hb, hc⟩ := H.out.2 (by omega)
      have hc1 : wr.cell? ⟨b, off + k, none⟩ = some (.float .f32 (xs.getD k 0)) := by
        rw [hcp.below.cell (p := ⟨b, off + k, none⟩) hb]; exact hc k hlt
      have hc2 : wr.cell? ⟨w.heap.size, k, none⟩ = some (.float .f32 0) := by rw [hcp.cell k hlt, if_neg (by omega)]
      have hf2 := hcp.free k
      clear hcp hc
      go_wp2
      go_roundw
      case rel => exact ⟨k + 1, by omega, by go_num, by have := HC.out.step hlt; simpa using this⟩
      case measure => simp [intOf]; omega
    · obtain rfl : k = len := by omega
      clear hcp
      go_wp2
      go_ret
      exact ⟨_, rfl, HC.out.done H.out.1, HC.out.below⟩

/-! ### sums -/
def sumF (xs : List Nat) : Nat → Nat
  | 0 => 0
  | k + 1 => fop .add .f32 (sumF xs k) (xs.getD k 0)
def RetFB (F : Nat) (ok : Bool) (w : World) (e : Ending) (w' : World) : Prop := ∃ r n, e = .returned (.tuple #[.float .f32 r, .bool ok]) ∧ w' = w.drewN n ∧ Sim .f32 r F ∧ Fits .f32 r
theorem zero32 : Fits .f32 0 := fits_of_wf (by decide)
set_option maxHeartbeats 400000 in
theorem spSum0 (a : Option Addr) (len cap : Nat) (xs : List Nat) (w : World) (h : SlV (Value.float .f32) w a len xs) (hl : len ≤ 1048576) : Calls Try.prog 52 #[.slice a len cap] w (RetF .f32 (sumF xs len) w) := by
  have H := hid h
  clear h
  go_enter Try.func52, Try.ntmps52
  go_wp2
  go_loopw [3, 4] (fun s i wr => ∃ k r n : Nat, k ≤ len ∧ i = .int .i64 k ∧ s = .float .f32 r ∧ Sim .f32 r (sumF xs k) ∧ Fits .f32 r ∧ wr = w.drewN n) (fun _ i _ => len - (intOf i).toNat)
  case atStart => exact ⟨0, 0, 0, Nat.zero_le _, rfl, rfl, Sim.refl _ _, zero32, rfl⟩
  case round =>
    obtain ⟨k, r0, n, hk, rfl, rfl, hr0, hf0, rfl⟩ := hrel
    by_cases hlt : k < len
    · obtain ⟨b, off, rfl, hb, hc⟩ := H.out.2 (by omega)
      have hc1 : w.cell? ⟨b, off + k, none⟩ = some (.float .f32 (xs.getD k 0)) := hc k hlt
      clear hc
      go_wp2_with (refine wpList_fsim rfl .add _ _ _ _ rfl rfl .f32 _ _ rfl rfl (by with_reducible assumption) (Sim.refl _ _) ?_; intro r n hr hb)
      go_roundw
      case rel => exact ⟨k + 1, _, _, by omega, by go_num, rfl, by simpa [sumF] using hr, by with_reducible assumption, rfl⟩
      case measure => simp [intOf]; omega
    · obtain rfl : k = len := by omega
      go_wp2
      go_ret
      exact ⟨_, _, rfl, rfl, hr0, hf0⟩
theorem spSum (a : Option Addr) (len cap : Nat) (xs : List Nat) (w : World) (h : SlV (Value.float .f32) w a len xs) (hl : len ≤ 256) : Calls Try.prog 22 #[.slice a len cap] w (RetFB (sumF xs len) true w) := by
  have hd : decide ((len : Int) ≤ 256) = true := by simp; omega
  have hm : len ≤ 1048576 := by omega
  go_enter Try.func22, Try.ntmps22
  go_wp2_with (first | (go_at_call 52; refine (spSum0 _ _ _ xs _ h (by omega)).mono ?_; rintro e w' ⟨r, n, rfl, rfl, hr, hb⟩) | go_in)
  go_ret2
  exact ⟨_, _, rfl, rfl, hr, hb⟩
theorem spSumNo (a : Option Addr) (len cap : Nat) (w : World) (hl : 256 < len) (hm : len ≤ 1048576) : Calls Try.prog 22 #[.slice a len cap] w (RetFB 0 false w) := by
  have hd : decide ((len : Int) ≤ 256) = false := by simp; omega
  go_enter Try.func22, Try.ntmps22
  go_wp2
  go_ret2
  exact ⟨_, 0, rfl, rfl, Sim.refl _ _, zero32⟩
set_option maxHeartbeats 400000 in
theorem imSum (a : Option Addr) (len cap : Nat) (xs : List Nat) (w : World) (h : SlV (Value.float .f32) w a len xs) (hl : len ≤ 256) : Calls Try.prog 23 #[.slice a len cap] w (RetFB (sumF xs len) true w) := by
  have H := hid h
  clear h
  go_enter Try.func23, Try.ntmps23
  go_wp2
  go_loopw [4, 12] (fun s i wr => ∃ k r n : Nat, k ≤ len ∧ i = .int .i64 k ∧ s = .float .f32 r ∧ Sim .f32 r (sumF xs k) ∧ Fits .f32 r ∧ wr = w.drewN n) (fun _ i _ => len - (intOf i).toNat)
  case atStart => exact ⟨0, 0, 0, Nat.zero_le _, rfl, rfl, Sim.refl _ _, zero32, rfl⟩
  case round =>
    obtain ⟨k, r0, n, hk, rfl, rfl, hr0, hf0, rfl⟩ := hrel
    by_cases hlt : k < len
    · obtain ⟨b, off, rfl, hb, hc⟩ := H.out.2 (by omega)
      have hc1 : w.cell? ⟨b, off + k, none⟩ = some (.float .f32 (xs.getD k 0)) := hc k hlt
      clear hc
      go_wp2_with (refine wpList_fsim rfl .add _ _ _ _ rfl rfl .f32 _ _ rfl rfl (by with_reducible assumption) (Sim.refl _ _) ?_; intro r n hr hb)
      go_roundw
      case rel => exact ⟨k + 1, _, _, by omega, by go_num, rfl, by simpa [sumF] using hr, by with_reducible assumption, rfl⟩
      case measure => simp [intOf]; omega
    · obtain rfl : k = len := by omega
      go_wp2
      go_ret2
      exact ⟨_, _, rfl, rfl, hr0, hf0⟩
theorem imSumNo (a : Option Addr) (len cap : Nat) (w : World) (hl : 256 < len) (hm : len ≤ 1048576) : Calls Try.prog 23 #[.slice a len cap] w (RetFB 0 false w) := by
  go_enter Try.func23, Try.ntmps23
  go_wp2
  go_ret2
  exact ⟨_, 0, rfl, rfl, Sim.refl _ _, zero32⟩
set_option maxHeartbeats 400000 in
theorem eqF (a b : Option Addr) (len ca cb : Nat) (xs : List Nat) (w : World) (h : SlV (Value.float .f32) w a len xs) (g : SlV (Value.float .f32) w b len xs) (hw : ∀ x ∈ xs, (Lit.float .f32 x).wf = true) (hl : len ≤ 1048576) : Calls Try.prog 21 #[.slice a len ca, .slice b len cb] w fun e w' => e = .returned (.bool true) ∧ ∃ n, w' = w.drewN n := by
  have H := hid h
  have G := hid g
  have HW := hid hw
  clear h g hw
  go_enter Try.func21, Try.ntmps21
  go_wp2
  go_loopw [5] (fun i wr => ∃ k n : Nat, k ≤ len ∧ i = .int .i64 k ∧ wr = w.drewN n) (fun i _ => len - (intOf i).toNat)
  case atStart => exact ⟨0, 0, Nat.zero_le _, rfl, rfl⟩
  case round =>
    obtain ⟨k, n, hk, rfl, rfl⟩ := hrel
    by_cases hlt : k < len
    · obtain ⟨b1, off1, rfl, hb1, hc1⟩ := H.out.2 (by omega)
      obtain ⟨b2, off2, rfl, hb2, hc2⟩ := G.out.2 (by omega)
      have hd1 : w.cell? ⟨b1, off1 + k, none⟩ = some (.float .f32 (xs.getD k 0)) := hc1 k hlt
      have hd2 : w.cell? ⟨b2, off2 + k, none⟩ = some (.float .f32 (xs.getD k 0)) := hc2 k hlt
      have HF : Fits .f32 (xs.getD k 0) := by
        have hkl : k < xs.length := by rw [H.out.1]; exact hlt
        refine fits_of_wf (HW.out _ ?_)
        rw [List.getD_eq_getElem?_getD, List.getElem?_eq_getElem hkl]
        exact List.getElem_mem hkl
      generalize xs.getD k 0 = x at *
      clear hc1 hc2
      obtain ⟨cv, hcv⟩ := pick_fconv Try.prog 22 25 .f32 .f64 TryWalk.u22 Try.underlying25
      have hcv1 := fun w => (hcv x HF w).1
      have HCV : Hid (∀ w, Sim .f64 (cv x w).1 (fconv .f32 x .f64)) := hid fun w => (hcv x HF w).2.1 (over_up x)
      clear hcv
      go_wp2_with fail
      go_region_with (go_at_call 17; refine (sameFloat _ _ _ (Sim.trans (HCV.out _) (Sim.symm (HCV.out _)))).mono ?_; rintro e w' ⟨rfl, n, rfl⟩)
      all_goals (go_wp2_with fail; exact ⟨⟨k + 1, _, by omega, by go_num, rfl⟩, by simp [intOf]; omega⟩)
    · obtain rfl : k = len := by omega
      go_wp2
      go_ret
      exact ⟨rfl, _, rfl⟩
/-! ### products -/
def dotF (xs ys : List Nat) : Nat → Nat
  | 0 => 0
  | k + 1 => fop .add .f32 (dotF xs ys k) (fop .mul .f32 (xs.getD k 0) (ys.getD k 0))
set_option maxHeartbeats 1000000 in
theorem spDot0 (a b : Option Addr) (len ca cb : Nat) (xs ys : List Nat) (w : World) (h : SlV (Value.float .f32) w a len xs) (g : SlV (Value.float .f32) w b len ys) (hl : len ≤ 1048576) : Calls Try.prog 51 #[.slice a len ca, .slice b len cb] w (RetF .f32 (dotF xs ys len) w) := by
  have H := hid h
  have G := hid g
  clear h g
  go_enter Try.func51, Try.ntmps51
  go_wp2
  go_loopw [5, 6] (fun s i wr => ∃ k r n : Nat, k ≤ len ∧ i = .int .i64 k ∧ s = .float .f32 r ∧ Sim .f32 r (dotF xs ys k) ∧ Fits .f32 r ∧ wr = w.drewN n) (fun _ i _ => len - (intOf i).toNat)
  case atStart => exact ⟨0, 0, 0, Nat.zero_le _, rfl, rfl, Sim.refl _ _, zero32, rfl⟩
  case round =>
    obtain ⟨k, r0, n, hk, rfl, rfl, hr0, hf0, rfl⟩ := hrel
    by_cases hlt : k < len
    · obtain ⟨b1, off1, rfl, hb1, hc1⟩ := H.out.2 (by omega)
      obtain ⟨b2, off2, rfl, hb2, hc2⟩ := G.out.2 (by omega)
      have hd1 : w.cell? ⟨b1, off1 + k, none⟩ = some (.float .f32 (xs.getD k 0)) := hc1 k hlt
      have hd2 : w.cell? ⟨b2, off2 + k, none⟩ = some (.float .f32 (ys.getD k 0)) := hc2 k hlt
      have HR : Hid (Sim .f32 r0 (dotF xs ys k)) := hid hr0
      have hstep : Hid (dotF xs ys (k + 1) = fop .add .f32 (dotF xs ys k) (fop .mul .f32 (xs.getD k 0) (ys.getD k 0))) := hid rfl
      generalize xs.getD k 0 = x at *
      generalize ys.getD k 0 = y at *
      clear hc1 hc2 hr0
      obtain ⟨fm, hm1, hm2⟩ := pick_farith Try.prog .mul rfl .f32
      obtain ⟨fa, ha1, ha2⟩ := pick_farith Try.prog .add rfl .f32
      have HM := hid hm2
      have HA := hid ha2
      clear hm2 ha2
      go_wp2_with fail
      go_region
      all_goals (go_wp2_with fail; exact ⟨⟨k + 1, _, _, by omega, by go_num, rfl, by rw [hstep.out]; exact Sim.trans (HA.out _ _ _).1 (by rw [fop_congr .add HR.out (HM.out _ _ _).1]; exact Sim.refl _ _), (HA.out _ _ _).2, rfl⟩, by simp [intOf]; omega⟩)
    · obtain rfl : k = len := by omega
      go_wp2_with fail
      go_ret
      exact ⟨_, _, rfl, rfl, hr0, hf0⟩
set_option maxHeartbeats 1000000 in
theorem imDot (a b : Option Addr) (len ca cb : Nat) (xs ys : List Nat) (w : World) (h : SlV (Value.float .f32) w a len xs) (g : SlV (Value.float .f32) w b len ys) (hl : len ≤ 256) : Calls Try.prog 20 #[.slice a len ca, .slice b len cb] w (RetFB (dotF xs ys len) true w) := by
  have H := hid h
  have G := hid g
  clear h g
  go_enter Try.func20, Try.ntmps20
  go_wp2
  go_loopw [6, 20] (fun s i wr => ∃ k r n : Nat, k ≤ len ∧ i = .int .i64 k ∧ s = .float .f32 r ∧ Sim .f32 r (dotF xs ys k) ∧ Fits .f32 r ∧ wr = w.drewN n) (fun _ i _ => len - (intOf i).toNat)
  case atStart => exact ⟨0, 0, 0, Nat.zero_le _, rfl, rfl, Sim.refl _ _, zero32, rfl⟩
  case round =>
    obtain ⟨k, r0, n, hk, rfl, rfl, hr0, hf0, rfl⟩ := hrel
    by_cases hlt : k < len
    · obtain ⟨b1, off1, rfl, hb1, hc1⟩ := H.out.2 (by omega)
      obtain ⟨b2, off2, rfl, hb2, hc2⟩ := G.out.2 (by omega)
      have hd1 : w.cell? ⟨b1, off1 + k, none⟩ = some (.float .f32 (xs.getD k 0)) := hc1 k hlt
      have hd2 : w.cell? ⟨b2, off2 + k, none⟩ = some (.float .f32 (ys.getD k 0)) := hc2 k hlt
      have HR : Hid (Sim .f32 r0 (dotF xs ys k)) := hid hr0
      have hstep : Hid (dotF xs ys (k + 1) = fop .add .f32 (dotF xs ys k) (fop .mul .f32 (xs.getD k 0) (ys.getD k 0))) := hid rfl
      generalize xs.getD k 0 = x at *
      generalize ys.getD k 0 = y at *
      clear hc1 hc2 hr0
      obtain ⟨fm, hm1, hm2⟩ := pick_farith Try.prog .mul rfl .f32
      obtain ⟨fa, ha1, ha2⟩ := pick_farith Try.prog .add rfl .f32
      have HM := hid hm2
      have HA := hid ha2
      clear hm2 ha2
      go_wp2_with fail
      go_region
      all_goals (go_wp2_with fail; exact ⟨⟨k + 1, _, _, by omega, by go_num, rfl, by rw [hstep.out]; exact Sim.trans (HA.out _ _ _).1 (by rw [fop_congr .add HR.out (HM.out _ _ _).1]; exact Sim.refl _ _), (HA.out _ _ _).2, rfl⟩, by simp [intOf]; omega⟩)
    · obtain rfl : k = len := by omega
      go_wp2_with fail
      go_ret2
      exact ⟨_, _, rfl, rfl, hr0, hf0⟩
theorem spDot (a b : Option Addr) (len ca cb : Nat) (xs ys : List Nat) (w : World) (h : SlV (Value.float .f32) w a len xs) (g : SlV (Value.float .f32) w b len ys) (hl : len ≤ 256) : Calls Try.prog 18 #[.slice a len ca, .slice b len cb] w (RetFB (dotF xs ys len) true w) := by
  have hd : decide ((len : Int) ≤ 256) = true := by simp; omega
  have hm : len ≤ 1048576 := by omega
  go_enter Try.func18, Try.ntmps18
  go_wp2_with (first | (go_at_call 51; refine (spDot0 _ _ _ _ _ xs ys _ h g (by omega)).mono ?_; rintro e w' ⟨r, n, rfl, rfl, hr, hb⟩) | go_in)
  go_ret2
  exact ⟨_, _, rfl, rfl, hr, hb⟩
theorem spDotNo (a b : Option Addr) (la lb ca cb : Nat) (w : World) (hla : la ≤ 1048576) (hlb : lb ≤ 1048576) (h : 256 < la ∨ (la ≤ 256 ∧ la ≠ lb)) : Calls Try.prog 18 #[.slice a la ca, .slice b lb cb] w (RetFB 0 false w) := by
  rcases h with h | ⟨h, h2⟩
  · have hd : decide ((la : Int) ≤ 256) = false := by simp; omega
    go_enter Try.func18, Try.ntmps18
    go_wp2
    go_ret2
    exact ⟨_, 0, rfl, rfl, Sim.refl _ _, zero32⟩
  · have hd : decide ((la : Int) ≤ 256) = true := by simp; omega
    have he : ((la : Int) == (lb : Int)) = false := by simp; omega
    have he2 : ((la : Int) != (lb : Int)) = true := by simp; omega
    go_enter Try.func18, Try.ntmps18
    go_wp2
    go_ret2
    exact ⟨_, 0, rfl, rfl, Sim.refl _ _, zero32⟩
theorem imDotNo (a b : Option Addr) (la lb ca cb : Nat) (w : World) (hla : la ≤ 1048576) (hlb : lb ≤ 1048576) (h : 256 < la ∨ (la ≤ 256 ∧ la ≠ lb)) : Calls Try.prog 20 #[.slice a la ca, .slice b lb cb] w (RetFB 0 false w) := by
  rcases h with h | ⟨h, h2⟩
  · go_enter Try.func20, Try.ntmps20
    go_wp2
    go_ret2
    exact ⟨_, 0, rfl, rfl, Sim.refl _ _, zero32⟩
  · have he : ((la : Int) == (lb : Int)) = false := by simp; omega
    have he2 : ((la : Int) != (lb : Int)) = true := by simp; omega
    have hd : decide (256 < (la : Int)) = false := by simp; omega
    go_enter Try.func20, Try.ntmps20
    go_wp2
    go_ret2
    exact ⟨_, 0, rfl, rfl, Sim.refl _ _, zero32⟩
set_option maxHeartbeats 400000 in
theorem fnExactSumNumbers (a : Option Addr) (len cap : Nat) (zs : List Nat) (w : World) (hrow : IsRowF .f32 w a len cap zs) : Calls Try.prog 5 #[.slice a len cap] w fun e w' => e = .returned (.bool true) ∧ Below w.heap.size w w' := by
  obtain ⟨h, hwf, hmax⟩ := hrow
  unfold maxLen at hmax
  by_cases hbig : 1048576 < len
  · go_enter Try.func5, Try.ntmps5
    go_wp2_with fail
    go_ret
    exact ⟨rfl, Below.refl _ _⟩
  · have hl : len ≤ 1048576 := by omega
    have H := hid h
    have HW := hid hwf
    clear h hwf hbig
    obtain ⟨F, ok, hF⟩ : ∃ F ok, ∀ (a' : Option Addr) (c : Nat) (w' : World), SlV (Value.float .f32) w' a' len zs → Calls Try.prog 22 #[.slice a' len c] w' (RetFB F ok w') ∧ Calls Try.prog 23 #[.slice a' len c] w' (RetFB F ok w') := by
      by_cases hs : len ≤ 256
      · exact ⟨_, _, fun a' c w' h => ⟨spSum a' len c zs w' h hs, imSum a' len c zs w' h hs⟩⟩
      · exact ⟨_, _, fun a' c w' h => ⟨spSumNo a' len c w' (by omega) hl, imSumNo a' len c w' (by omega) hl⟩⟩
    have HF := hid hF
    clear hF
    go_enter Try.func5, Try.ntmps5
    go_wp2_with fail
    refine (toF _ _ _ zs _ H.out hl).mono ?_
    rintro e w1 ⟨a1, rfl, s1, b1⟩
    go_wp2_with fail
    refine (HF.out _ _ _ s1).1.mono ?_
    rintro e w' ⟨r1, n1, rfl, rfl, hr1, hb1⟩
    go_wp2_with fail
    refine (toF _ _ _ zs _ ((H.out.below b1).drewN n1) hl).mono ?_
    rintro e w2 ⟨a2, rfl, s2, b2⟩
    have b2' := below_to (below_dr b1 n1) b2
    clear b1 b2
    go_wp2_with fail
    refine (HF.out _ _ _ s2).2.mono ?_
    rintro e w' ⟨r2, n2, rfl, rfl, hr2, hb2⟩
    go_wp2_with (refine wpList_up rfl _ _ _ rfl _ rfl (by with_reducible assumption) u22 Try.underlying25 (by with_reducible assumption) ?_; intro r n hr hb)
    refine (sameFloat _ _ _ (Sim.trans (by with_reducible assumption) (Sim.symm (by with_reducible assumption)))).mono ?_
    rintro e w' ⟨rfl, n5, rfl⟩
    go_wp2_with fail
    refine (toF _ _ _ zs _ ((H.out.below b2').drewN _) hl).mono ?_
    rintro e w3 ⟨a3, rfl, s3, b3⟩
    have s2' := (s2.drewN _).below b3
    have b3' := below_to (below_dr b2' _) b3
    go_wp2_with fail
    refine (eqF _ _ _ _ _ zs _ s2' s3 HW.out hl).mono ?_
    rintro e w' ⟨rfl, n6, rfl⟩
    go_wp2_with fail
    go_ret
    exact ⟨rfl, below_dr b3' _⟩

set_option maxHeartbeats 1000000 in
theorem fnExactDotNumbers (a : Option Addr) (la ca : Nat) (xs : List Nat) (b : Option Addr) (lb cb : Nat) (ys : List Nat) (w : World) (hra : IsRowF .f32 w a la ca xs) (hrb : IsRowF .f32 w b lb cb ys) : Calls Try.prog 4 #[.slice a la ca, .slice b lb cb] w fun e w' => e = .returned (.bool true) ∧ Below w.heap.size w w' := by
  obtain ⟨ha, hwa, hma⟩ := hra
  obtain ⟨hb, hwb, hmb⟩ := hrb
  unfold maxLen at hma hmb
  by_cases hbig : 1048576 < la
  · go_enter Try.func4, Try.ntmps4
    go_wp2_with fail
    go_ret
    exact ⟨rfl, Below.refl _ _⟩
  · by_cases hbig2 : 1048576 < lb
    · go_enter Try.func4, Try.ntmps4
      go_wp2_with fail
      go_ret
      exact ⟨rfl, Below.refl _ _⟩
    · have hla : la ≤ 1048576 := by omega
      have hlb : lb ≤ 1048576 := by omega
      have HA := hid ha
      have HB := hid hb
      have HWA := hid hwa
      have HWB := hid hwb
      clear ha hb hwa hwb hbig hbig2
      obtain ⟨F, ok, hF⟩ : ∃ F ok, ∀ (a' b' : Option Addr) (c d : Nat) (w' : World), SlV (Value.float .f32) w' a' la xs → SlV (Value.float .f32) w' b' lb ys → Calls Try.prog 18 #[.slice a' la c, .slice b' lb d] w' (RetFB F ok w') ∧ Calls Try.prog 20 #[.slice a' la c, .slice b' lb d] w' (RetFB F ok w') := by
        by_cases hs : la ≤ 256
        · by_cases he : la = lb
          · subst he
            exact ⟨_, _, fun a' b' c d w' h g => ⟨spDot a' b' la c d xs ys w' h g hs, imDot a' b' la c d xs ys w' h g hs⟩⟩
          · exact ⟨_, _, fun a' b' c d w' h g => ⟨spDotNo a' b' la lb c d w' hla hlb (.inr ⟨hs, he⟩), imDotNo a' b' la lb c d w' hla hlb (.inr ⟨hs, he⟩)⟩⟩
        · exact ⟨_, _, fun a' b' c d w' h g => ⟨spDotNo a' b' la lb c d w' hla hlb (.inl (by omega)), imDotNo a' b' la lb c d w' hla hlb (.inl (by omega))⟩⟩
      have HF := hid hF
      clear hF
      go_enter Try.func4, Try.ntmps4
      go_wp2_with fail
      refine (toF a la _ xs _ HA.out hla).mono ?_
      rintro e w1 ⟨a1, rfl, s1, b1⟩
      go_wp2_with fail
      refine (toF b lb _ ys _ (HB.out.below b1) hlb).mono ?_
      rintro e w2 ⟨a2, rfl, s2, b2⟩
      have s1' := s1.below b2
      have b2' := below_to b1 b2
      clear s1 b1 b2
      go_wp2_with fail
      refine (HF.out _ _ _ _ _ s1' s2).1.mono ?_
      rintro e w' ⟨r1, n1, rfl, rfl, hr1, hb1⟩
      clear s1' s2
      go_wp2_with fail
      refine (toF a la _ xs _ ((HA.out.below b2').drewN n1) hla).mono ?_
      rintro e w3 ⟨a3, rfl, s3, b3⟩
      have b3' := below_to (below_dr b2' n1) b3
      clear b2' b3
      go_wp2_with fail
      refine (toF b lb _ ys _ (HB.out.below b3') hlb).mono ?_
      rintro e w4 ⟨a4, rfl, s4, b4⟩
      have s3' := s3.below b4
      have b4' := below_to b3' b4
      clear s3 b3' b4
      go_wp2_with fail
      refine (HF.out _ _ _ _ _ s3' s4).2.mono ?_
      rintro e w' ⟨r2, n2, rfl, rfl, hr2, hb2⟩
      go_wp2_with (refine wpList_up rfl _ _ _ rfl _ rfl (by with_reducible assumption) u22 Try.underlying25 (by with_reducible assumption) ?_; intro r n hr hb)
      refine (sameFloat _ _ _ (Sim.trans (by with_reducible assumption) (Sim.symm (by with_reducible assumption)))).mono ?_
      rintro e w' ⟨rfl, n5, rfl⟩
      go_wp2_with fail
      refine (toF a la _ xs _ ((HA.out.below b4').drewN _) hla).mono ?_
      rintro e w5 ⟨a5, rfl, s5, b5⟩
      have s3'' := (s3'.drewN _).below b5
      have s4' := (s4.drewN _).below b5
      have b5' := below_to (below_dr b4' _) b5
      clear s3' s4 b4' b5
      go_wp2_with fail
      refine (eqF _ _ _ _ _ xs _ s3'' s5 HWA.out hla).mono ?_
      rintro e w' ⟨rfl, n6, rfl⟩
      go_wp2_with fail
      refine (toF b lb _ ys _ ((HB.out.below b5').drewN _) hlb).mono ?_
      rintro e w6 ⟨a6, rfl, s6, b6⟩
      have s4'' := (s4'.drewN _).below b6
      have b6' := below_to (below_dr b5' _) b6
      go_wp2_with fail
      refine (eqF _ _ _ _ _ ys _ s4'' s6 HWB.out hlb).mono ?_
      rintro e w' ⟨rfl, n7, rfl⟩
      go_wp2_with fail
      go_ret
      exact ⟨rfl, below_dr b6' _⟩
end TryWalk
end Go.Proofs.Ytlabbakmlanfgaa
