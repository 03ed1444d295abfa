/- Complex numbers: the comparison of two lists. No condition. -/
import Derived.Test.YtimablpgikebgaaDoorVz3
namespace Go.Proofs.YtimablpgikebgaaDoor
open Go.RowKit Sl Flo Iee
set_option linter.unusedVariables false
set_option linter.unusedSimpArgs false
namespace Walk
theorem sameComplex (a1 a2 b1 b2 : Nat) (w : World) (h1 : Sim .f64 a1 b1) (h2 : Sim .f64 a2 b2) : Calls Tryd.prog 43 #[.complex .f64 a1 a2, .complex .f64 b1 b2] w fun e w' => e = .returned (.bool true) ∧ ∃ n, w' = w.drewN n := by
  have H1 := hid h1
  have H2 := hid h2
  clear h1 h2
  go_enter Tryd.func43, Tryd.ntmps43
  go_wp2_with fail
  refine (sameFloat _ _ _ H1.out).mono ?_
  rintro e w' ⟨rfl, n1, rfl⟩
  go_wp2_with fail
  refine (sameFloat _ _ _ H2.out).mono ?_
  rintro e w' ⟨rfl, n2, rfl⟩
  go_wp2_with fail
  go_ret
  exact ⟨rfl, _, rfl⟩
theorem run_ftf (x : Nat) (hx : Fits .f32 x) (w : World) : ∃ r n, (Conv.floatToFloat .f32 x .f64).run Tryd.prog w = .ok (.float .f64 r) (w.drewN n) ∧ Sim .f64 r (fconv .f32 x .f64) := by
  obtain ⟨r, n, h, hs, -⟩ := run_fconv (P := Tryd.prog) w 51 54 .f32 .f64 x hx u51 Tryd.underlying54
  refine ⟨r, n, ?_, hs (over_up x)⟩
  rw [← h]
  simp [convert, run_underlying Tryd.underlying51, run_underlying Tryd.underlying54]
theorem run_cconv (x : Nat × Nat) (h1 : Fits .f32 x.1) (h2 : Fits .f32 x.2) (w : World) : ∃ r1 r2 n, (convert 55 58 (.complex .f32 x.1 x.2)).run Tryd.prog w = .ok (.complex .f64 r1 r2) (w.drewN n) ∧ Sim .f64 r1 (fconv .f32 x.1 .f64) ∧ Sim .f64 r2 (fconv .f32 x.2 .f64) := by
  obtain ⟨r1, n1, e1, s1⟩ := run_ftf x.1 h1 w
  obtain ⟨r2, n2, e2, s2⟩ := run_ftf x.2 h2 (w.drewN n1)
  refine ⟨r1, r2, n1 + n2, ?_, s1, s2⟩
  have hd : (w.drewN n1).drewN n2 = w.drewN (n1 + n2) := by simp
  rw [← hd]
  simp only [convert, run_underlying Tryd.underlying55, run_underlying Tryd.underlying58, Conv.complexToComplex, Sem.run_bind, e1, Result.andThen_ok, e2, Sem.run_pure]
theorem pick_cconv : ∃ g : Nat × Nat → World → (Nat × Nat) × Nat, ∀ x, Fits .f32 x.1 → Fits .f32 x.2 → ∀ w, (convert 55 58 (.complex .f32 x.1 x.2)).run Tryd.prog w = .ok (.complex .f64 (g x w).1.1 (g x w).1.2) (w.drewN (g x w).2) ∧ Sim .f64 (g x w).1.1 (fconv .f32 x.1 .f64) ∧ Sim .f64 (g x w).1.2 (fconv .f32 x.2 .f64) := by
  have h : ∀ p : (Nat × Nat) × World, ∃ q : (Nat × Nat) × Nat, Fits .f32 p.1.1 → Fits .f32 p.1.2 → (convert 55 58 (.complex .f32 p.1.1 p.1.2)).run Tryd.prog p.2 = .ok (.complex .f64 q.1.1 q.1.2) (p.2.drewN q.2) ∧ Sim .f64 q.1.1 (fconv .f32 p.1.1 .f64) ∧ Sim .f64 q.1.2 (fconv .f32 p.1.2 .f64) := by
    intro p
    by_cases hf : Fits .f32 p.1.1 ∧ Fits .f32 p.1.2
    · obtain ⟨r1, r2, n, h1, h2, h3⟩ := run_cconv p.1 hf.1 hf.2 p.2
      exact ⟨((r1, r2), n), fun _ _ => ⟨h1, h2, h3⟩⟩
    · exact ⟨((0, 0), 0), fun h g => absurd ⟨h, g⟩ hf⟩
  obtain ⟨g, hg⟩ := Classical.axiomOfChoice h
  exact ⟨fun x w => g (x, w), fun x h1 h2 w => hg (x, w) h1 h2⟩
end Walk
end Go.Proofs.YtimablpgikebgaaDoor
