/- Games: lists of chances. No condition. -/
import Derived.Test.YtlbmmecjiopbbaaWsf
import Derived.Test.YtlbmmecjiopbbaaWi4
namespace Go.Proofs.Ytlbmmecjiopbbaa
open Go.RowKit Flo Sl Pg
set_option linter.unusedVariables false
set_option linter.unusedSimpArgs false
namespace TryWalk
theorem u65 : (Try.prog.underlying 65).isSome = true := by rw [Try.underlying65]; rfl
theorem info65 : (Try.prog.info? 65).map (fun i => (i.zero, i.size, i.bytes)) = some (some (.float .f32 0), 1, 4) := by kernel_rfl
theorem mk65 (n : Nat) (h : n ≤ 1048576) (w : World) : (Instr.makeSlice 64 (.int .i64 n) (.int .i64 n)).run Try.prog w = .ok (.slice (some ⟨w.heap.size, 0, none⟩) n n) (w.alloc (.cells (madeCells #[.float .f32 0] n) 65)) := by
  obtain ⟨i0, hi, hz0, hz1, hz2⟩ := info_parts info65
  have := run_make (P := Try.prog) w 64 65 i0 (.float .f32 0) Try.underlying64 hi hz0 .i64 .i64 n n (by omega) (Int.le_refl _) (by rw [hz2]; omega) (by omega)
  rw [hz1] at this
  simpa [Value.cells] using this
set_option maxHeartbeats 400000 in
theorem toF (a : Option Addr) (len cap : Nat) (xs : List Nat) (w : World) (h : SlV (Value.float .f32) w a len xs) (hl : len ≤ 1048576) : Calls Try.prog 63 #[.slice a len cap] w (RetSl (Value.float .f32) len xs w) := by
  have hmk := mk65 len hl
  have H := hid h
  clear h
  go_enter Try.func63, Try.ntmps63
  go_wp2
  have hst := hid (Cp.start (f := Value.float .f32) w len (.float .f32 0) 65 xs)
  go_loopw [4] (fun i wr => ∃ k : Nat, k ≤ len ∧ i = .int .i64 k ∧ Cp (Value.float .f32) w len (.float .f32 0) xs k wr) (fun i _ => len - (intOf i).toNat)
  case atStart => exact ⟨0, Nat.zero_le _, rfl, hst.out⟩
  case round =>
    obtain ⟨k, hk, rfl, hcp⟩ := hrel
    have HC := hid hcp
    by_cases hlt : k < len
    · obtain ⟨b, off, rfl, hb, hc⟩ := H.out.2 (by omega)
      have hc1 : wr.cell? ⟨b, off + k, none⟩ = some (.float .f32 (xs.getD k 0)) := by
        rw [hcp.below.cell (p := ⟨b, off + k, none⟩) hb]; exact hc k hlt
      have hc2 : wr.cell? ⟨w.heap.size, k, none⟩ = some (.float .f32 0) := by rw [hcp.cell k hlt, if_neg (by omega)]
      have hf2 := hcp.free k
      clear hcp hc
      go_wp2
      go_roundw
      case rel => exact ⟨k + 1, by omega, by go_num, by have := HC.out.step hlt; simpa using this⟩
      case measure => simp [intOf]; omega
    · obtain rfl : k = len := by omega
      clear hcp
      go_wp2
      go_ret
      exact ⟨_, rfl, HC.out.done H.out.1, HC.out.below⟩
set_option maxHeartbeats 400000 in
theorem eqF (a b : Option Addr) (len ca cb : Nat) (xs : List Nat) (w : World) (h : SlV (Value.float .f32) w a len xs) (g : SlV (Value.float .f32) w b len xs) (hw : ∀ x ∈ xs, (Lit.float .f32 x).wf = true) (hl : len ≤ 1048576) : Calls Try.prog 66 #[.slice a len ca, .slice b len cb] w fun e w' => e = .returned (.bool true) ∧ ∃ n, w' = w.drewN n := by
  have H := hid h
  have G := hid g
  have HW := hid hw
  clear h g hw
  go_enter Try.func66, Try.ntmps66
  go_wp2
  go_loopw [5] (fun i wr => ∃ k n : Nat, k ≤ len ∧ i = .int .i64 k ∧ wr = w.drewN n) (fun i _ => len - (intOf i).toNat)
  case atStart => exact ⟨0, 0, Nat.zero_le _, rfl, rfl⟩
  case round =>
    obtain ⟨k, n, hk, rfl, rfl⟩ := hrel
    by_cases hlt : k < len
    · obtain ⟨b1, off1, rfl, hb1, hc1⟩ := H.out.2 (by omega)
      obtain ⟨b2, off2, rfl, hb2, hc2⟩ := G.out.2 (by omega)
      have hd1 : w.cell? ⟨b1, off1 + k, none⟩ = some (.float .f32 (xs.getD k 0)) := hc1 k hlt
      have hd2 : w.cell? ⟨b2, off2 + k, none⟩ = some (.float .f32 (xs.getD k 0)) := hc2 k hlt
      have HF : Fits .f32 (xs.getD k 0) := by
        have hkl : k < xs.length := by rw [H.out.1]; exact hlt
        refine fits_of_wf (HW.out _ ?_)
        rw [List.getD_eq_getElem?_getD, List.getElem?_eq_getElem hkl]
        exact List.getElem_mem hkl
      generalize xs.getD k 0 = x at *
      clear hc1 hc2
      obtain ⟨cv, hcv⟩ := pick_fconv Try.prog 65 70 .f32 .f64 TryWalk.u65 Try.underlying70
      have hcv1 := fun w => (hcv x HF w).1
      have HCV : Hid (∀ w, Sim .f64 (cv x w).1 (fconv .f32 x .f64)) := hid fun w => (hcv x HF w).2.1 (over_up x)
      clear hcv
      go_wp2_with fail
      go_region_with (go_at_call 65; refine (sameFloat _ _ _ (Sim.trans (HCV.out _) (Sim.symm (HCV.out _)))).mono ?_; rintro e w' ⟨rfl, n, rfl⟩)
      all_goals (go_wp2_with fail; exact ⟨⟨k + 1, _, by omega, by go_num, rfl⟩, by simp [intOf]; omega⟩)
    · obtain rfl : k = len := by omega
      go_wp2
      go_ret
      exact ⟨rfl, _, rfl⟩
/-! ### chances -/
theorem isFin_congr {k : FloatKind} {x y : Nat} (h : Sim k x y) : isFin k x = isFin k y := by
  unfold isFin; rw [fop_congr .sub h h]
def ge0 (x : Nat) : Bool := (FloatKind.f32.format.order x 0 == some .gt || FloatKind.f32.format.order x 0 == some .eq)
def okC (x : Nat) : Bool := isFin .f32 x && ge0 x
/-- It returns a truth value; it draws at most. -/
def RetQ (d : Bool) (w : World) (e : Ending) (w' : World) : Prop := e = .returned (.bool d) ∧ ∃ n, w' = w.drewN n
theorem spFin (x : Nat) (w : World) : Calls Try.prog 106 #[.float .f32 x] w (RetQ (isFin .f32 x) w) := by
  go_enter Try.func106, Try.ntmps106
  go_wp2_with (refine wpList_farith rfl .sub _ _ _ _ rfl rfl .f32 _ _ rfl rfl ?_; intro r n hr hb)
  go_ret
  exact ⟨by rw [isFin, ← order_congr hr (Sim.refl _ _)]; rfl, n, rfl⟩
theorem imFin (x : Nat) (w : World) : Calls Try.prog 133 #[.float .f32 x] w (RetQ (isFin .f32 x) w) := by
  go_enter Try.func133, Try.ntmps133
  go_wp2_with (refine wpList_farith rfl .sub _ _ _ _ rfl rfl .f32 _ _ rfl rfl ?_; intro r n hr hb)
  go_ret
  exact ⟨by rw [isFin, ← order_congr hr (Sim.refl _ _)]; rfl, n, rfl⟩
theorem least (x : Nat) (w : World) : Calls Try.prog 129 #[.float .f32 x] w (RetQ (okC x) w) := by
  have HF := hid (spFin x w)
  obtain ⟨d, hd⟩ : ∃ d, isFin .f32 x = d := ⟨_, rfl⟩
  have HD := hid hd
  rw [hd] at HF
  clear hd
  cases d
  · go_enter Try.func129, Try.ntmps129
    go_wp2_with fail
    refine HF.out.mono ?_
    rintro e w' ⟨rfl, n, rfl⟩
    go_wp2_with fail
    go_ret
    exact ⟨by rw [okC, HD.out]; rfl, n, rfl⟩
  · go_enter Try.func129, Try.ntmps129
    go_wp2_with fail
    refine HF.out.mono ?_
    rintro e w' ⟨rfl, n, rfl⟩
    go_wp2_with fail
    go_ret
    exact ⟨by rw [okC, HD.out]; rfl, n, rfl⟩
theorem imFin1 (x : Nat) (w : World) : Calls Try.prog 132 #[.float .f32 x] w (RetQ (!isFin .f32 x) w) := by
  go_enter Try.func132, Try.ntmps132
  go_wp2_with fail
  refine (imFin x w).mono ?_
  rintro e w' ⟨rfl, n, rfl⟩
  go_wp2_with fail
  go_ret
  exact ⟨rfl, n, rfl⟩
theorem imLess1 (x : Nat) (w : World) : Calls Try.prog 137 #[.float .f32 x] w (RetQ (!ge0 x) w) := by
  go_enter Try.func137, Try.ntmps137
  go_wp2_with fail
  go_ret
  exact ⟨by rw [ge0, Bool.not_or]; rfl, 0, rfl⟩
theorem all_no' {xs : List Nat} {p : Nat → Bool} (h : ∀ j, j < xs.length → p (xs.getD j 0) = true) : xs.all p = true := by
  rw [List.all_eq_true]
  intro x hx
  obtain ⟨i, hi, rfl⟩ := List.getElem_of_mem hx
  have := h i hi
  rw [List.getD_eq_getElem?_getD, List.getElem?_eq_getElem hi] at this
  simpa using this
theorem all_yes' {xs : List Nat} {p : Nat → Bool} {j : Nat} (hj : j < xs.length) (h : p (xs.getD j 0) = false) : xs.all p = false := by
  rw [List.all_eq_false]
  refine ⟨xs.getD j 0, ?_, by rw [h]; simp⟩
  rw [List.getD_eq_getElem?_getD, List.getElem?_eq_getElem hj]; exact List.getElem_mem hj
set_option maxHeartbeats 1000000 in
theorem chances (a : Option Addr) (len cap : Nat) (xs : List Nat) (z : Int) (w : World) (h : SlV (Value.float .f32) w a len xs) (hl : len ≤ 1048576) : Calls Try.prog 105 #[.slice a len cap, .int .i64 z] w (RetQ (decide ((len : Int) = z) && xs.all okC) w) := by
  have H := hid h
  clear h
  go_enter Try.func105, Try.ntmps105
  go_wp2_with fail
  go_loopw [5] (fun i wr => ∃ k n : Nat, k ≤ len ∧ i = .int .i64 k ∧ wr = w.drewN n ∧ ∀ j, j < k → okC (xs.getD j 0) = true) (fun i _ => len - (intOf i).toNat)
  case atStart => exact ⟨0, 0, Nat.zero_le _, rfl, rfl, fun _ h => absurd h (Nat.not_lt_zero _)⟩
  case round =>
    obtain ⟨k, n, hk, rfl, rfl, hall⟩ := hrel
    have HA := hid hall
    clear hall
    by_cases hlt : k < len
    · obtain ⟨b1, off1, rfl, hb1, hc1⟩ := H.out.2 (by omega)
      have hd1 : w.cell? ⟨b1, off1 + k, none⟩ = some (.float .f32 (xs.getD k 0)) := hc1 k hlt
      clear hc1
      obtain ⟨c, hc⟩ : ∃ c, okC (xs.getD k 0) = c := ⟨_, rfl⟩
      have HC := hid hc
      obtain ⟨x, hx⟩ : ∃ x, xs.getD k 0 = x := ⟨_, rfl⟩
      rw [hx] at hd1 hc
      have HL := hid (fun w' => least x w')
      rw [hc] at HL
      clear hx hc
      cases c
      · go_wp2_with fail
        refine (HL.out _).mono ?_
        rintro e w' ⟨rfl, n2, rfl⟩
        go_wp2_with fail
        go_ret
        exact ⟨by rw [all_yes' (by rw [H.out.1]; exact hlt) HC.out, Bool.and_false]; rfl, _, rfl⟩
      · go_wp2_with fail
        refine (HL.out _).mono ?_
        rintro e w' ⟨rfl, n2, rfl⟩
        go_wp2_with fail
        go_roundw
        case rel => exact ⟨k + 1, _, by omega, by go_num, rfl, fun j hj => by
          rcases Nat.lt_succ_iff_lt_or_eq.mp hj with h | h
          · exact HA.out j h
          · subst h; exact HC.out⟩
        case measure => simp [intOf]; omega
    · obtain rfl : k = len := by omega
      have ha : xs.all okC = true := all_no' (fun j hj => HA.out j (by rw [← H.out.1]; exact hj))
      have HAA := hid ha
      clear ha
      go_wp2_with fail
      go_ret
      exact ⟨by rw [HAA.out, Bool.and_true]; show Ending.returned (.bool ((k : Int) == z)) = _; congr 2, _, rfl⟩
def pFin (x : Nat) : Bool := !isFin .f32 x
theorem any_all_F {xs : List Nat} (h : ∀ j, j < xs.length → pFin (xs.getD j 0) = false) : xs.any pFin = false := by
  rw [List.any_eq_false]
  intro x hx
  obtain ⟨i, hi, rfl⟩ := List.getElem_of_mem hx
  have := h i hi
  rw [List.getD_eq_getElem?_getD, List.getElem?_eq_getElem hi] at this
  simpa using this
set_option maxHeartbeats 2000000 in
theorem idxfF (a : Option Addr) (len cap : Nat) (xs : List Nat) (w : World) (h : SlV (Value.float .f32) w a len xs) (hl : len ≤ 1048576) : Calls Try.prog 138 #[.slice a len cap, .func (.func 132) #[] #[]] w fun e w' => ∃ r : Int, e = .returned (.int .i64 r) ∧ decide (0 ≤ r) = xs.any pFin ∧ ∃ n, w' = w.drewN n := by
  have H := hid h
  clear h
  go_enter Try.func138, Try.ntmps138
  go_wp2_with fail
  go_loopw [5, 8] (fun x i wr => ∃ j n : Nat, j ≤ len ∧ i = .int .i64 j ∧ wr = w.drewN n ∧ ∀ m, m < j → pFin (xs.getD m 0) = false) (fun _ i _ => len - (intOf i).toNat)
  case atStart => exact ⟨0, 0, Nat.zero_le _, rfl, rfl, fun _ h => absurd h (Nat.not_lt_zero _)⟩
  case round =>
    obtain ⟨j, n, hj, rfl, rfl, hall⟩ := hrel
    have HA := hid hall
    clear hall
    by_cases hlt : j < len
    · obtain ⟨b1, off, rfl, hb1, hc⟩ := H.out.2 (by omega)
      have hd1 : w.cell? ⟨b1, off + j, none⟩ = some (.float .f32 (xs.getD j 0)) := hc j hlt
      clear hc
      obtain ⟨c, hcc⟩ : ∃ c, pFin (xs.getD j 0) = c := ⟨_, rfl⟩
      have HP := hid hcc
      obtain ⟨x, hx⟩ : ∃ x, xs.getD j 0 = x := ⟨_, rfl⟩
      rw [hx] at hd1 hcc
      have HCL : Hid (∀ w', Calls Try.prog 132 #[.float .f32 x] w' (RetQ c w')) := hid (fun w' => by rw [← hcc]; exact imFin1 x w')
      clear hx hcc
      cases c with
      | false =>
        go_wp2_with (go_at_call 132; refine (HCL.out _).mono ?_; rintro e w1 ⟨rfl, n1, rfl⟩)
        go_roundw
        case rel => exact ⟨j + 1, _, by omega, by go_num, rfl, fun m hm => by
          rcases Nat.lt_succ_iff_lt_or_eq.mp hm with h | h
          · exact HA.out m h
          · subst h; exact HP.out⟩
        case measure => simp [intOf]; omega
      | true =>
        go_wp2_with (go_at_call 132; refine (HCL.out _).mono ?_; rintro e w1 ⟨rfl, n1, rfl⟩)
        go_ret
        exact ⟨(j : Int), rfl, by
          have : xs.any pFin = true := by
            rw [List.any_eq_true]
            refine ⟨xs.getD j 0, ?_, HP.out⟩
            have hjl : j < xs.length := by rw [H.out.1]; exact hlt
            rw [List.getD_eq_getElem?_getD, List.getElem?_eq_getElem hjl]; exact List.getElem_mem hjl
          rw [this]; simp, _, rfl⟩
    · obtain rfl : j = len := by omega
      go_wp2_with fail
      go_ret
      exact ⟨-1, rfl, by rw [any_all_F (fun m hm => HA.out m (by rw [← H.out.1]; exact hm))]; rfl, _, rfl⟩
theorem contF (a : Option Addr) (len cap : Nat) (xs : List Nat) (w : World) (h : SlV (Value.float .f32) w a len xs) (hl : len ≤ 1048576) : Calls Try.prog 131 #[.slice a len cap, .func (.func 132) #[] #[]] w (RetQ (xs.any pFin) w) := by
  have HI := hid (idxfF a len cap xs w h hl)
  clear h
  obtain ⟨d, hd⟩ : ∃ d, xs.any pFin = d := ⟨_, rfl⟩
  rw [hd] at HI
  rw [hd]
  clear hd
  go_enter Try.func131, Try.ntmps131
  go_wp2_with fail
  refine HI.out.mono ?_
  rintro e w1 ⟨r, rfl, hr, n, rfl⟩
  have HR := hid hr
  clear hr
  go_wp2_with fail
  go_ret
  exact ⟨by show Ending.returned (.bool (decide (0 ≤ r))) = _; rw [HR.out], n, rfl⟩
def pLess (x : Nat) : Bool := !ge0 x
theorem any_all_L {xs : List Nat} (h : ∀ j, j < xs.length → pLess (xs.getD j 0) = false) : xs.any pLess = false := by
  rw [List.any_eq_false]
  intro x hx
  obtain ⟨i, hi, rfl⟩ := List.getElem_of_mem hx
  have := h i hi
  rw [List.getD_eq_getElem?_getD, List.getElem?_eq_getElem hi] at this
  simpa using this
set_option maxHeartbeats 2000000 in
theorem idxfL (a : Option Addr) (len cap : Nat) (xs : List Nat) (w : World) (h : SlV (Value.float .f32) w a len xs) (hl : len ≤ 1048576) : Calls Try.prog 138 #[.slice a len cap, .func (.func 137) #[] #[]] w fun e w' => ∃ r : Int, e = .returned (.int .i64 r) ∧ decide (0 ≤ r) = xs.any pLess ∧ ∃ n, w' = w.drewN n := by
  have H := hid h
  clear h
  go_enter Try.func138, Try.ntmps138
  go_wp2_with fail
  go_loopw [5, 8] (fun x i wr => ∃ j n : Nat, j ≤ len ∧ i = .int .i64 j ∧ wr = w.drewN n ∧ ∀ m, m < j → pLess (xs.getD m 0) = false) (fun _ i _ => len - (intOf i).toNat)
  case atStart => exact ⟨0, 0, Nat.zero_le _, rfl, rfl, fun _ h => absurd h (Nat.not_lt_zero _)⟩
  case round =>
    obtain ⟨j, n, hj, rfl, rfl, hall⟩ := hrel
    have HA := hid hall
    clear hall
    by_cases hlt : j < len
    · obtain ⟨b1, off, rfl, hb1, hc⟩ := H.out.2 (by omega)
      have hd1 : w.cell? ⟨b1, off + j, none⟩ = some (.float .f32 (xs.getD j 0)) := hc j hlt
      clear hc
      obtain ⟨c, hcc⟩ : ∃ c, pLess (xs.getD j 0) = c := ⟨_, rfl⟩
      have HP := hid hcc
      obtain ⟨x, hx⟩ : ∃ x, xs.getD j 0 = x := ⟨_, rfl⟩
      rw [hx] at hd1 hcc
      have HCL : Hid (∀ w', Calls Try.prog 137 #[.float .f32 x] w' (RetQ c w')) := hid (fun w' => by rw [← hcc]; exact imLess1 x w')
      clear hx hcc
      cases c with
      | false =>
        go_wp2_with (go_at_call 137; refine (HCL.out _).mono ?_; rintro e w1 ⟨rfl, n1, rfl⟩)
        go_roundw
        case rel => exact ⟨j + 1, _, by omega, by go_num, rfl, fun m hm => by
          rcases Nat.lt_succ_iff_lt_or_eq.mp hm with h | h
          · exact HA.out m h
          · subst h; exact HP.out⟩
        case measure => simp [intOf]; omega
      | true =>
        go_wp2_with (go_at_call 137; refine (HCL.out _).mono ?_; rintro e w1 ⟨rfl, n1, rfl⟩)
        go_ret
        exact ⟨(j : Int), rfl, by
          have : xs.any pLess = true := by
            rw [List.any_eq_true]
            refine ⟨xs.getD j 0, ?_, HP.out⟩
            have hjl : j < xs.length := by rw [H.out.1]; exact hlt
            rw [List.getD_eq_getElem?_getD, List.getElem?_eq_getElem hjl]; exact List.getElem_mem hjl
          rw [this]; simp, _, rfl⟩
    · obtain rfl : j = len := by omega
      go_wp2_with fail
      go_ret
      exact ⟨-1, rfl, by rw [any_all_L (fun m hm => HA.out m (by rw [← H.out.1]; exact hm))]; rfl, _, rfl⟩
theorem contL (a : Option Addr) (len cap : Nat) (xs : List Nat) (w : World) (h : SlV (Value.float .f32) w a len xs) (hl : len ≤ 1048576) : Calls Try.prog 131 #[.slice a len cap, .func (.func 137) #[] #[]] w (RetQ (xs.any pLess) w) := by
  have HI := hid (idxfL a len cap xs w h hl)
  clear h
  obtain ⟨d, hd⟩ : ∃ d, xs.any pLess = d := ⟨_, rfl⟩
  rw [hd] at HI
  rw [hd]
  clear hd
  go_enter Try.func131, Try.ntmps131
  go_wp2_with fail
  refine HI.out.mono ?_
  rintro e w1 ⟨r, rfl, hr, n, rfl⟩
  have HR := hid hr
  clear hr
  go_wp2_with fail
  go_ret
  exact ⟨by show Ending.returned (.bool (decide (0 ≤ r))) = _; rw [HR.out], n, rfl⟩
theorem areFin (a : Option Addr) (len cap : Nat) (xs : List Nat) (w : World) (h : SlV (Value.float .f32) w a len xs) (hl : len ≤ 1048576) : Calls Try.prog 108 #[.slice a len cap] w (RetQ (!xs.any pFin) w) := by
  go_enter Try.func108, Try.ntmps108
  go_wp2_with fail
  refine (contF a len cap xs w h hl).mono ?_
  rintro e w1 ⟨rfl, n, rfl⟩
  go_wp2_with fail
  go_ret
  exact ⟨rfl, n, rfl⟩
theorem notLess (a : Option Addr) (len cap : Nat) (xs : List Nat) (w : World) (h : SlV (Value.float .f32) w a len xs) (hl : len ≤ 1048576) : Calls Try.prog 130 #[.slice a len cap] w (RetQ (!xs.any pFin && !xs.any pLess) w) := by
  have HF := hid (areFin a len cap xs w h hl)
  have HL := hid (fun n => contL a len cap xs (w.drewN n) h hl)
  clear h
  obtain ⟨d, hd⟩ : ∃ d, xs.any pFin = d := ⟨_, rfl⟩
  obtain ⟨q, hq⟩ : ∃ q, xs.any pLess = q := ⟨_, rfl⟩
  rw [hd] at HF
  rw [hq] at HL
  rw [hd, hq]
  clear hd hq
  cases d
  · go_enter Try.func130, Try.ntmps130
    go_wp2_with fail
    refine HF.out.mono ?_
    rintro e w1 ⟨rfl, n, rfl⟩
    go_wp2_with fail
    refine (HL.out n).mono ?_
    rintro e w1 ⟨rfl, n2, rfl⟩
    go_wp2_with fail
    go_ret
    exact ⟨rfl, _, rfl⟩
  · go_enter Try.func130, Try.ntmps130
    go_wp2_with fail
    refine HF.out.mono ?_
    rintro e w1 ⟨rfl, n, rfl⟩
    go_wp2_with fail
    go_ret
    exact ⟨rfl, _, rfl⟩
theorem okC_all (xs : List Nat) : xs.all okC = (!xs.any pFin && !xs.any pLess) := by
  induction xs with
  | nil => rfl
  | cons x xs ih =>
    simp only [List.all_cons, List.any_cons, ih, okC, pFin, pLess]
    cases isFin .f32 x <;> cases ge0 x <;> cases xs.any pFin <;> cases xs.any pLess <;> rfl
end TryWalk
end Go.Proofs.Ytlbmmecjiopbbaa
