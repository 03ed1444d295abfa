/- The law FnExactMeanGains returns true for every input and leaves its arguments as they were: the walk of YtlbmmecjiopbbaaLmg, joined to the given row. No condition. -/
import Derived.Test.YtlbmmecjiopbbaaRows
import Derived.Test.YtlbmmecjiopbbaaLmg
import Derived.WalkKit
import Derived.ProofKit
import Derived.OpenShut
import Derived.ShutString
import Derived.ChangeOld
import Derived.Below
import Derived.Laws.Cover2
import Derived.Lib.SmallJoins
import Derived.Test.YtlbmmecjiopbbaaRowf
import Derived.Test.YtlbmmecjiopbbaaJf
import Derived.Test.YtlbmmecjiopbbaaHd
namespace Go.Proofs.Ytlbmmecjiopbbaa.FnExactMeanGainsRow
open Go.ChangeShapes Go.WideShapes Go.ChangeAt Go.RowKit Go.Joins
open Go.ChangeMaps (open_string shut_string)
set_option linter.unusedVariables false

theorem own : ownKnob Try.prog.godebug = none := by kernel_rfl
theorem laidOut : laidOutB Try.prog = true := by kernel_rfl

set_option maxRecDepth 100000 in
theorem lifted (os : Os) (started : os.Started) (H : Type) (enc : TypeId × Value → H) :
    ReturnsInHanded {} Try.checked os 20 .any (Rows.fnExactMeanGainsSpec.pre6 enc Try.prog Try.f20 Rows.fnExactMeanGainsRow.domain false) (Rows.fnExactMeanGainsSpec.post enc Try.prog Try.f20 false true false false) := by
  refine returnsInHanded_of_change (C := Try.checked) own started (by kernel_rfl) Try.func20
    (ChangeSpec.witness6 (enc := enc) (C := Try.checked) false ⟨#[], #[.agg #[.int .i64 0, .int .i64 0, .slice none 0 0, .slice none 0 0], .agg #[.slice none 0 0, .slice none 0 0], .agg #[.slice none 0 0, .slice none 0 0]], []⟩ 8 (by kernel_rfl) (by kernel_rfl) (by kernel_rfl) (by kernel_rfl)) ?_
  intro W base args ds gs before hval0 hW hcnd _
  have hval : ∀ (j : Nat) t v, Try.f20.params[j]? = some t → args[j]? = some v → Value.okWide Try.prog W .any base t v := hval0
  have hW' := hW
  obtain ⟨p, q, hA0, hV, rfl, hfz, hnd⟩ := hW
  have hA : DataW.TrodAll enc Try.prog W 0 (fun _ => true) true Try.f20.params.toList args.toList ds p := hA0
  rw [Try.params20] at hA hval
  obtain ⟨v0, vs0, d0, ds0, p0, q0, hargs, rfl, rfl, h0, r0⟩ := trodAll_cons hA
  obtain ⟨v1, vs1, d1, ds1, p1, q1, rfl, rfl, rfl, h1, r1⟩ := trodAll_cons r0
  obtain ⟨v2, vs2, d2, ds2, p2, q2, rfl, rfl, rfl, h2, r2⟩ := trodAll_cons r1
  obtain ⟨rfl, rfl, rfl⟩ := trodAll_nil r2
  obtain rfl : args = #[v0, v1, v2] := by cases args; simp_all
  obtain ⟨rfl, rfl⟩ := trodVars_none hV
  have k0 := h0
  have lt0 : ∀ x ∈ p0, x.block < W.heap.size := by obtain ⟨m, hm⟩ := k0; exact DataW.trod_lt m _ _ _ hm
  obtain ⟨c00, c01, c02, c03, y00, y01, y02, y03, m0, rfl, ed0, ep0, hy00, hy01, hy02, hy03⟩ := open_agg4 Try.underlying41 (by kernel_rfl) (by kernel_rfl) (hval 0 41 v0 rfl rfl) h0
  obtain ⟨a00, e00, -, w00⟩ := DataW.trod_int Try.underlying2 hy00
  simp only [List.cons.injEq, and_true] at e00; subst e00
  obtain ⟨a01, e01, -, w01⟩ := DataW.trod_int Try.underlying2 hy01
  simp only [List.cons.injEq, and_true] at e01; subst e01
  obtain ⟨a02, len02, cap02, e02⟩ := slice_form Try.underlying22 hy02
  simp only [List.cons.injEq, and_true] at e02; subst e02
  obtain ⟨z02, w02⟩ : ∃ zs, IsRow .i64 W a02 len02 cap02 zs := row_of_trod Try.underlying22 Try.underlying2 (by kernel_rfl) ⟨_, hy02⟩
  obtain ⟨a03, len03, cap03, e03⟩ := slice_form Try.underlying22 hy03
  simp only [List.cons.injEq, and_true] at e03; subst e03
  obtain ⟨z03, w03⟩ : ∃ zs, IsRow .i64 W a03 len03 cap03 zs := row_of_trod Try.underlying22 Try.underlying2 (by kernel_rfl) ⟨_, hy03⟩
  have k1 := h1
  have lt1 : ∀ x ∈ p1, x.block < W.heap.size := by obtain ⟨m, hm⟩ := k1; exact DataW.trod_lt m _ _ _ hm
  obtain ⟨c10, c11, y10, y11, m1, rfl, ed1, ep1, hy10, hy11⟩ := open_agg2 Try.underlying33 (by kernel_rfl) (by kernel_rfl) (hval 1 33 v1 rfl rfl) h1
  obtain ⟨a10, len10, cap10, e10⟩ := slice_form Try.underlying22 hy10
  simp only [List.cons.injEq, and_true] at e10; subst e10
  obtain ⟨z10, w10⟩ : ∃ zs, IsRow .i64 W a10 len10 cap10 zs := row_of_trod Try.underlying22 Try.underlying2 (by kernel_rfl) ⟨_, hy10⟩
  obtain ⟨a11, len11, cap11, e11⟩ := slice_form Try.underlying22 hy11
  simp only [List.cons.injEq, and_true] at e11; subst e11
  obtain ⟨z11, w11⟩ : ∃ zs, IsRow .i64 W a11 len11 cap11 zs := row_of_trod Try.underlying22 Try.underlying2 (by kernel_rfl) ⟨_, hy11⟩
  have k2 := h2
  have lt2 : ∀ x ∈ p2, x.block < W.heap.size := by obtain ⟨m, hm⟩ := k2; exact DataW.trod_lt m _ _ _ hm
  obtain ⟨c20, c21, y20, y21, m2, rfl, ed2, ep2, hy20, hy21⟩ := open_agg2 Try.underlying33 (by kernel_rfl) (by kernel_rfl) (hval 2 33 v2 rfl rfl) h2
  obtain ⟨a20, len20, cap20, e20⟩ := slice_form Try.underlying22 hy20
  simp only [List.cons.injEq, and_true] at e20; subst e20
  obtain ⟨z20, w20⟩ : ∃ zs, IsRow .i64 W a20 len20 cap20 zs := row_of_trod Try.underlying22 Try.underlying2 (by kernel_rfl) ⟨_, hy20⟩
  obtain ⟨a21, len21, cap21, e21⟩ := slice_form Try.underlying22 hy21
  simp only [List.cons.injEq, and_true] at e21; subst e21
  obtain ⟨z21, w21⟩ : ∃ zs, IsRow .i64 W a21 len21 cap21 zs := row_of_trod Try.underlying22 Try.underlying2 (by kernel_rfl) ⟨_, hy21⟩
  clear hA0 hval0
  refine (TryWalk.fnExactMeanGains a00 a01 a02 len02 cap02 z02 a03 len03 cap03 z03 a10 len10 cap10 z10 a11 len11 cap11 z11 a20 len20 cap20 z20 a21 len21 cap21 z21 W w00 w01 w02 w03 w10 w11 w20 w21).mono fun e W' ⟨he, bel⟩ => ?_
  subst he
  exact ⟨_, rfl, _, _, _, [], _, [], hW', trodAll_mk1 (shut_bool Try.underlying4 _), (trodAll_cons_mk (Below.trod laidOut (by kernel_rfl) (of_decide_eq_true (by kernel_rfl)) k0 bel lt0) (trodAll_cons_mk (Below.trod laidOut (by kernel_rfl) (of_decide_eq_true (by kernel_rfl)) k1 bel lt1) (trodAll_cons_mk (Below.trod laidOut (by kernel_rfl) (of_decide_eq_true (by kernel_rfl)) k2 bel lt2) trodAll_mk0))), rfl, bel.frame _, fun h => by cases h⟩

theorem over : Rows.fnExactMeanGainsRow.holds Try.pinned (OpenSpec.ofChange Rows.fnExactMeanGainsSpec) :=
  OpenClaim.holds_of_wide 20 Try.f20 rfl rfl rfl rfl rfl rfl rfl ⟨rfl, rfl, rfl, rfl, rfl⟩ rfl rfl rfl rfl rfl (by kernel_rfl) Try.func20 (Jf.facts (by kernel_rfl) (by kernel_rfl) (by kernel_rfl) (by kernel_rfl) (by kernel_rfl) (by kernel_rfl) (by kernel_rfl) (by kernel_rfl) (by kernel_rfl) (by kernel_rfl) (by kernel_rfl) (by kernel_rfl) (by kernel_rfl) (by kernel_rfl) (by kernel_rfl) (by kernel_rfl) (by kernel_rfl) (by kernel_rfl) (by kernel_rfl) (by kernel_rfl) (by kernel_rfl) (by kernel_rfl) (by kernel_rfl) (by kernel_rfl) (by kernel_rfl) Hd.may ((congrArg (fun b => (Rows.fnExactMeanGainsRow.lifted == b)) Hd.finals).trans (by rfl)) ((congrArg (fun b => (b == some Rows.fnExactMeanGainsRow.make)) Hd.make).trans (by kernel_rfl)) (by kernel_rfl) (by kernel_rfl) (by kernel_rfl) (by kernel_rfl))
    (of_decide_eq_true (by kernel_rfl)) (by unfold Func.isWrapper; first | (rw [if_pos (by decide +kernel)]; kernel_rfl) | (rw [if_neg (by decide +kernel)]; exact ⟨rfl, rfl⟩))
    (fun os started H enc _ => lifted os started H enc)

theorem proved : Rows.FnExactMeanGainsSaid := over
#print axioms proved
end Go.Proofs.Ytlbmmecjiopbbaa.FnExactMeanGainsRow
