/- The law FnExactGainsOf returns true for every input and leaves its arguments as they were: the walk of YtlbmmecjiopbbaaLgn, joined to the given row. No condition. -/
import Derived.Test.YtlbmmecjiopbbaaRows
import Derived.Test.YtlbmmecjiopbbaaLgn
import Derived.WalkKit
import Derived.ProofKit
import Derived.OpenShut
import Derived.ShutString
import Derived.ChangeOld
import Derived.Below
import Derived.Laws.Cover2
import Derived.Lib.SmallJoins
import Derived.Test.YtlbmmecjiopbbaaRowf
import Derived.Test.YtlbmmecjiopbbaaJf
import Derived.Test.YtlbmmecjiopbbaaHd
namespace Go.Proofs.Ytlbmmecjiopbbaa.FnExactGainsOfRow
open Go.ChangeShapes Go.WideShapes Go.ChangeAt Go.RowKit Go.Joins
open Go.ChangeMaps (open_string shut_string)
set_option linter.unusedVariables false

theorem own : ownKnob Try.prog.godebug = none := by kernel_rfl
theorem laidOut : laidOutB Try.prog = true := by kernel_rfl

set_option maxRecDepth 100000 in
theorem lifted (os : Os) (started : os.Started) (H : Type) (enc : TypeId × Value → H) :
    ReturnsInHanded {} Try.checked os 16 .any (Rows.fnExactGainsOfSpec.pre6 enc Try.prog Try.f16 Rows.fnExactGainsOfRow.domain false) (Rows.fnExactGainsOfSpec.post enc Try.prog Try.f16 false true false false) := by
  refine returnsInHanded_of_change (C := Try.checked) own started (by kernel_rfl) Try.func16
    (ChangeSpec.witness6 (enc := enc) (C := Try.checked) false ⟨#[], #[.agg #[.int .i64 0, .int .i64 0, .slice none 0 0, .slice none 0 0], .slice none 0 0, .slice none 0 0], []⟩ 8 (by kernel_rfl) (by kernel_rfl) (by kernel_rfl) (by kernel_rfl)) ?_
  intro W base args ds gs before hval0 hW hcnd _
  have hval : ∀ (j : Nat) t v, Try.f16.params[j]? = some t → args[j]? = some v → Value.okWide Try.prog W .any base t v := hval0
  have hW' := hW
  obtain ⟨p, q, hA0, hV, rfl, hfz, hnd⟩ := hW
  have hA : DataW.TrodAll enc Try.prog W 0 (fun _ => true) true Try.f16.params.toList args.toList ds p := hA0
  rw [Try.params16] at hA hval
  obtain ⟨v0, vs0, d0, ds0, p0, q0, hargs, rfl, rfl, h0, r0⟩ := trodAll_cons hA
  obtain ⟨v1, vs1, d1, ds1, p1, q1, rfl, rfl, rfl, h1, r1⟩ := trodAll_cons r0
  obtain ⟨v2, vs2, d2, ds2, p2, q2, rfl, rfl, rfl, h2, r2⟩ := trodAll_cons r1
  obtain ⟨rfl, rfl, rfl⟩ := trodAll_nil r2
  obtain rfl : args = #[v0, v1, v2] := by cases args; simp_all
  obtain ⟨rfl, rfl⟩ := trodVars_none hV
  have k0 := h0
  have lt0 : ∀ x ∈ p0, x.block < W.heap.size := by obtain ⟨m, hm⟩ := k0; exact DataW.trod_lt m _ _ _ hm
  obtain ⟨c00, c01, c02, c03, y00, y01, y02, y03, m0, rfl, ed0, ep0, hy00, hy01, hy02, hy03⟩ := open_agg4 Try.underlying41 (by kernel_rfl) (by kernel_rfl) (hval 0 41 v0 rfl rfl) h0
  obtain ⟨a00, e00, -, w00⟩ := DataW.trod_int Try.underlying2 hy00
  simp only [List.cons.injEq, and_true] at e00; subst e00
  obtain ⟨a01, e01, -, w01⟩ := DataW.trod_int Try.underlying2 hy01
  simp only [List.cons.injEq, and_true] at e01; subst e01
  obtain ⟨a02, len02, cap02, e02⟩ := slice_form Try.underlying22 hy02
  simp only [List.cons.injEq, and_true] at e02; subst e02
  obtain ⟨z02, w02⟩ : ∃ zs, IsRow .i64 W a02 len02 cap02 zs := row_of_trod Try.underlying22 Try.underlying2 (by kernel_rfl) ⟨_, hy02⟩
  obtain ⟨a03, len03, cap03, e03⟩ := slice_form Try.underlying22 hy03
  simp only [List.cons.injEq, and_true] at e03; subst e03
  obtain ⟨z03, w03⟩ : ∃ zs, IsRow .i64 W a03 len03 cap03 zs := row_of_trod Try.underlying22 Try.underlying2 (by kernel_rfl) ⟨_, hy03⟩
  obtain ⟨a1, len1, cap1, rfl⟩ := okWide_slice Try.underlying64 (hval 1 64 v1 rfl rfl)
  have k1 := h1
  have lt1 : ∀ x ∈ p1, x.block < W.heap.size := by obtain ⟨m, hm⟩ := k1; exact DataW.trod_lt m _ _ _ hm
  obtain ⟨z1, w1⟩ : ∃ zs, IsRowF .f32 W a1 len1 cap1 zs := row_of_trodF Try.underlying64 Try.underlying65 (by kernel_rfl) h1
  obtain ⟨a2, len2, cap2, rfl⟩ := okWide_slice Try.underlying64 (hval 2 64 v2 rfl rfl)
  have k2 := h2
  have lt2 : ∀ x ∈ p2, x.block < W.heap.size := by obtain ⟨m, hm⟩ := k2; exact DataW.trod_lt m _ _ _ hm
  obtain ⟨z2, w2⟩ : ∃ zs, IsRowF .f32 W a2 len2 cap2 zs := row_of_trodF Try.underlying64 Try.underlying65 (by kernel_rfl) h2
  clear hA0 hval0
  refine (TryWalk.fnExactGainsOf a00 a01 a02 len02 cap02 z02 a03 len03 cap03 z03 a1 len1 cap1 z1 a2 len2 cap2 z2 W w00 w01 w02 w03 w1 w2).mono fun e W' ⟨he, bel⟩ => ?_
  subst he
  exact ⟨_, rfl, _, _, _, [], _, [], hW', trodAll_mk1 (shut_bool Try.underlying4 _), (trodAll_cons_mk (Below.trod laidOut (by kernel_rfl) (of_decide_eq_true (by kernel_rfl)) k0 bel lt0) (trodAll_cons_mk (Below.trod laidOut (by kernel_rfl) (of_decide_eq_true (by kernel_rfl)) k1 bel lt1) (trodAll_cons_mk (Below.trod laidOut (by kernel_rfl) (of_decide_eq_true (by kernel_rfl)) k2 bel lt2) trodAll_mk0))), rfl, bel.frame _, fun h => by cases h⟩

theorem over : Rows.fnExactGainsOfRow.holds Try.pinned (OpenSpec.ofChange Rows.fnExactGainsOfSpec) :=
  OpenClaim.holds_of_wide 16 Try.f16 rfl rfl rfl rfl rfl rfl rfl ⟨rfl, rfl, rfl, rfl, rfl⟩ rfl rfl rfl rfl rfl (by kernel_rfl) Try.func16 (Jf.facts (by kernel_rfl) (by kernel_rfl) (by kernel_rfl) (by kernel_rfl) (by kernel_rfl) (by kernel_rfl) (by kernel_rfl) (by kernel_rfl) (by kernel_rfl) (by kernel_rfl) (by kernel_rfl) (by kernel_rfl) (by kernel_rfl) (by kernel_rfl) (by kernel_rfl) (by kernel_rfl) (by kernel_rfl) (by kernel_rfl) (by kernel_rfl) (by kernel_rfl) (by kernel_rfl) (by kernel_rfl) (by kernel_rfl) (by kernel_rfl) (by kernel_rfl) Hd.may ((congrArg (fun b => (Rows.fnExactGainsOfRow.lifted == b)) Hd.finals).trans (by rfl)) ((congrArg (fun b => (b == some Rows.fnExactGainsOfRow.make)) Hd.make).trans (by kernel_rfl)) (by kernel_rfl) (by kernel_rfl) (by kernel_rfl) (by kernel_rfl))
    (of_decide_eq_true (by kernel_rfl)) (by unfold Func.isWrapper; first | (rw [if_pos (by decide +kernel)]; kernel_rfl) | (rw [if_neg (by decide +kernel)]; exact ⟨rfl, rfl⟩))
    (fun os started H enc _ => lifted os started H enc)

theorem proved : Rows.FnExactGainsOfSaid := over
#print axioms proved
end Go.Proofs.Ytlbmmecjiopbbaa.FnExactGainsOfRow
