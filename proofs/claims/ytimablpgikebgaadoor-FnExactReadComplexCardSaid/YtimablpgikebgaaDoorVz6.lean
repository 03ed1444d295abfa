/- Complex numbers: two lists compared. No condition. -/
import Derived.Test.YtimablpgikebgaaDoorVz5
namespace Go.Proofs.YtimablpgikebgaaDoor
open Go.RowKit Sl Flo Iee
set_option linter.unusedVariables false
set_option linter.unusedSimpArgs false
namespace Walk
set_option maxHeartbeats 1000000 in
theorem eqZ (a b : Option Addr) (len ca cb : Nat) (xs : List (Nat × Nat)) (w : World) (h : SlV (cz) w a len xs) (g : SlV (cz) w b len xs) (hw : ∀ x ∈ xs, x.1 < 4294967296 ∧ x.2 < 4294967296) (hl : len ≤ 1048576) : Calls Tryd.prog 22 #[.slice a len ca, .slice b len cb] w fun e w' => e = .returned (.bool true) ∧ ∃ n, w' = w.drewN n := by
  have H := hid h
  have G := hid g
  have HW := hid hw
  clear h g hw
  go_enter Tryd.func22, Tryd.ntmps22
  go_wp2
  go_loopw [5] (fun i wr => ∃ k n : Nat, k ≤ len ∧ i = .int .i64 k ∧ wr = w.drewN n) (fun i _ => len - (intOf i).toNat)
  case atStart => exact ⟨0, 0, Nat.zero_le _, rfl, rfl⟩
  case round =>
    obtain ⟨k, n, hk, rfl, rfl⟩ := hrel
    by_cases hlt : k < len
    · obtain ⟨b1, off1, rfl, hb1, hc1⟩ := H.out.2 (by omega)
      obtain ⟨b2, off2, rfl, hb2, hc2⟩ := G.out.2 (by omega)
      have hd1 : w.cell? ⟨b1, off1 + k, none⟩ = some (cz (xs.getD k (0, 0))) := hc1 k hlt
      have hd2 : w.cell? ⟨b2, off2 + k, none⟩ = some (cz (xs.getD k (0, 0))) := hc2 k hlt
      have HF : (xs.getD k (0, 0)).1 < 4294967296 ∧ (xs.getD k (0, 0)).2 < 4294967296 := by
        have hkl : k < xs.length := by rw [H.out.1]; exact hlt
        refine HW.out _ ?_
        rw [List.getD_eq_getElem?_getD, List.getElem?_eq_getElem hkl]
        exact List.getElem_mem hkl
      generalize xs.getD k (0, 0) = x at *
      clear hc1 hc2
      unfold cz at hd1 hd2
      have HF1 : Fits .f32 x.1 := fits_of_wf (by simp [Lit.wf]; exact HF.1)
      have HF2 : Fits .f32 x.2 := fits_of_wf (by simp [Lit.wf]; exact HF.2)
      obtain ⟨cv, hcv⟩ := pick_cconv
      have hcv1 := fun w => (hcv x HF1 HF2 w).1
      have HCV1 : Hid (∀ w, Sim .f64 (cv x w).1.1 (fconv .f32 x.1 .f64)) := hid fun w => (hcv x HF1 HF2 w).2.1
      have HCV2 : Hid (∀ w, Sim .f64 (cv x w).1.2 (fconv .f32 x.2 .f64)) := hid fun w => (hcv x HF1 HF2 w).2.2
      clear hcv HF HF1 HF2
      go_wp2_with fail
      go_region_with (go_at_call 43; refine (sameComplex _ _ _ _ _ (Sim.trans (HCV1.out _) (Sim.symm (HCV1.out _))) (Sim.trans (HCV2.out _) (Sim.symm (HCV2.out _)))).mono ?_; rintro e w' ⟨rfl, n, rfl⟩)
      all_goals (go_wp2_with fail; exact ⟨⟨k + 1, _, by omega, by go_num, rfl⟩, by simp [intOf]; omega⟩)
    · obtain rfl : k = len := by omega
      go_wp2
      go_ret
      exact ⟨rfl, _, rfl⟩
end Walk
end Go.Proofs.YtimablpgikebgaaDoor
