/- The law on PhasorOf. No condition. -/
import Derived.Test.YtlabbakmlanfgaaWph3
namespace Go.Proofs.Ytlabbakmlanfgaa
open Go.RowKit Flo Iee
set_option linter.unusedVariables false
namespace TryWalk
theorem sameC (a1 a2 b1 b2 : Nat) (w : World) (h1 : Sim .f64 a1 b1) (h2 : Sim .f64 a2 b2) : Calls Try.prog 37 #[.complex .f64 a1 a2, .complex .f64 b1 b2] w fun e w' => e = .returned (.bool true) ∧ ∃ n, w' = w.drewN n := by
  have H1 := hid h1
  have H2 := hid h2
  clear h1 h2
  go_enter Try.func37, Try.ntmps37
  go_wp2_with fail
  refine (sameFloat _ _ _ H1.out).mono ?_
  rintro e w' ⟨rfl, n1, rfl⟩
  go_wp2_with fail
  refine (sameFloat _ _ _ H2.out).mono ?_
  rintro e w' ⟨rfl, n2, rfl⟩
  go_wp2_with fail
  go_ret
  exact ⟨rfl, _, rfl⟩
theorem run_ftf (x : Nat) (hx : Fits .f32 x) (w : World) : ∃ r n, (Conv.floatToFloat .f32 x .f64).run Try.prog w = .ok (.float .f64 r) (w.drewN n) ∧ Sim .f64 r (fconv .f32 x .f64) := by
  obtain ⟨r, n, h, hs, -⟩ := run_fconv (P := Try.prog) w 22 25 .f32 .f64 x hx u22 Try.underlying25
  refine ⟨r, n, ?_, hs (over_up x)⟩
  rw [← h]
  simp [convert, run_underlying Try.underlying22, run_underlying Try.underlying25]
theorem run_cconv (x1 x2 : Nat) (h1 : Fits .f32 x1) (h2 : Fits .f32 x2) (w : World) : ∃ r1 r2 n, (convert 38 41 (.complex .f32 x1 x2)).run Try.prog w = .ok (.complex .f64 r1 r2) (w.drewN n) ∧ Sim .f64 r1 (fconv .f32 x1 .f64) ∧ Sim .f64 r2 (fconv .f32 x2 .f64) := by
  obtain ⟨r1, n1, e1, s1⟩ := run_ftf x1 h1 w
  obtain ⟨r2, n2, e2, s2⟩ := run_ftf x2 h2 (w.drewN n1)
  refine ⟨r1, r2, n1 + n2, ?_, s1, s2⟩
  have hd : (w.drewN n1).drewN n2 = w.drewN (n1 + n2) := by simp
  rw [← hd]
  simp only [convert, run_underlying Try.underlying38, run_underlying Try.underlying41, Conv.complexToComplex, Sem.run_bind, e1, Result.andThen_ok, e2, Sem.run_pure]
theorem wpList_cconv {w : World} {ops : Array Oper} {rest : List Oper} {o : Oper} {a : Act} {Q : Exit → Act → World → Prop} (hgd : Region.wanted o (yielded ops a.tmps) = true)
    (X : Operand) (ho : o.op = .convert 38 41 X) (x1 x2 : Nat) (hx : a.eval X = .complex .f32 x1 x2) (h1 : Fits .f32 x1) (h2 : Fits .f32 x2) {y1 y2 : Nat} (hs1 : Sim .f32 x1 y1) (hs2 : Sim .f32 x2 y2)
    (h : ∀ r1 r2 n, Sim .f64 r1 (fconv .f32 y1 .f64) → Sim .f64 r2 (fconv .f32 y2 .f64) → wpList Try.prog ops Q rest (a.put o.dst (.complex .f64 r1 r2)) (w.drewN n)) : wpList Try.prog ops Q (o :: rest) a w := by
  refine wpList_do hgd fun K hK => ?_
  obtain ⟨r1, r2, n, hr, g1, g2⟩ := run_cconv x1 x2 h1 h2 w
  unfold Oper.wp execOp
  simp only [ho, hx, Sem.run_bind, Sem.run_pure, Result.andThen_ok, hr]
  exact hK _ _ (h r1 r2 n (by rw [← fconv_congr .f64 hs1 (by decide)]; exact g1) (by rw [← fconv_congr .f64 hs2 (by decide)]; exact g2))
theorem fnExactPhasorOf (y : Nat) (w : World) (hy : (Lit.float .f64 y).wf = true) : Calls Try.prog 11 #[.float .f64 y] w fun e w' => e = .returned (.bool true) ∧ Below w.heap.size w w' := by
  have hf := fits_of_wf hy
  clear hy
  have H1 := hid (fun w => spPhasor y w hf)
  have H2 := hid (fun w => imPhasor y w hf)
  generalize phS y = F at *
  obtain ⟨F1, F2⟩ := F
  go_enter Try.func11, Try.ntmps11
  go_wp2_with (first | (go_at_call 35; refine (H1.out _).mono ?_; rintro e w' ⟨r1, r2, n, rfl, rfl, h1, h2, h3, h4⟩) | (go_at_call 36; refine (H2.out _).mono ?_; rintro e w' ⟨r1, r2, n, rfl, rfl, h1, h2, h3, h4⟩) | (refine wpList_cconv rfl _ rfl _ _ rfl (by with_reducible assumption) (by with_reducible assumption) (by with_reducible assumption) (by with_reducible assumption) ?_; intro r1 r2 n hr1 hr2) | (go_at_call 37; refine (sameC _ _ _ _ _ (Sim.trans (by with_reducible assumption) (Sim.symm (by with_reducible assumption))) (Sim.trans (by with_reducible assumption) (Sim.symm (by with_reducible assumption)))).mono ?_; rintro e w' ⟨rfl, n, rfl⟩))
  go_ret
  exact ⟨rfl, below_drewN (Below.refl _ _) _⟩
end TryWalk
end Go.Proofs.Ytlabbakmlanfgaa
