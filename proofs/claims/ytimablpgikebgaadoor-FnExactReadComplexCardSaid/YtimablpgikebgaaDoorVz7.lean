/- Complex numbers: marks. No condition. -/
import Derived.Test.YtimablpgikebgaaDoorVz6
import Derived.Laws.ComplexArith
namespace Go.Proofs.YtimablpgikebgaaDoor
open Go.RowKit Sl Flo Iee
set_option linter.unusedVariables false
set_option linter.unusedSimpArgs false
namespace Walk
theorem PkZ.slV {B : Nat} {w : World} {a : Option Addr} {len cap : Nat} {zs : List (Nat × Nat)} (h : PkZ B w (.slice a len cap) zs) : len = zs.length ∧ SlV (cz) w a len zs := by
  obtain ⟨a', cap', hv, h⟩ := h
  injection hv with e1 e2 e3
  subst e1
  subst e2
  refine ⟨rfl, rfl, fun h0 => ?_⟩
  obtain ⟨g, cur, rfl, h1, hg, h2, h3⟩ := h h0
  refine ⟨g, 0, rfl, (Array.getElem?_eq_some_iff.1 hg).1, fun i hi => ?_⟩
  have : cur[i]? = some (cz (zs.getD i default)) := by
    have := congrArg (·[i]?) h3
    simp only [List.getElem?_take_of_lt hi, List.getElem?_map, Array.getElem?_toList, List.getElem?_eq_getElem hi, Option.map_some] at this
    rw [this, List.getD_eq_getElem?_getD, List.getElem?_eq_getElem hi]
    rfl
  simp only [World.cell?, hg, Nat.zero_add]
  exact this


def mz (k : Nat) : Nat × Nat := (cConvBits .f64 (floatOfInt .f64 ((k : Int) + 1)) 4607182418800017408 .f32).getD (0, 0)
theorem mz_fin : ∀ i : Fin 257, (cConvBits .f64 (floatOfInt .f64 ((i.val : Int) + 1)) 4607182418800017408 .f32).isSome = true := by decide +kernel
theorem mz_run (k : Nat) (h : k ≤ 256) (w : World) : (convert 58 55 (.complex .f64 (floatOfInt .f64 ((k : Int) + 1)) 4607182418800017408)).run Tryd.prog w = .ok (.complex .f32 (mz k).1 (mz k).2) w := by
  refine run_convert_complex w 58 55 .f64 .f32 _ _ (mz k).1 (mz k).2 (by rw [Tryd.underlying58]; rfl) Tryd.underlying55 ?_
  have := mz_fin ⟨k, by omega⟩
  obtain ⟨r, hr⟩ := Option.isSome_iff_exists.1 this
  unfold mz
  rw [show cConvBits .f64 (floatOfInt .f64 ((k : Int) + 1)) 4607182418800017408 .f32 = some r from hr]
  rfl
theorem mz_nan_fin : ∀ i : Fin 257, (FloatKind.f32.format.order (mz i.val).1 (mz i.val).1 == some .eq && FloatKind.f32.format.order (mz i.val).2 (mz i.val).2 == some .eq) = true := by decide +kernel
theorem mz_nan (k : Nat) (h : k ≤ 256) : (FloatKind.f32.format.order (mz k).1 (mz k).1 == some .eq && FloatKind.f32.format.order (mz k).2 (mz k).2 == some .eq) = true := mz_nan_fin ⟨k, by omega⟩
/-- The row as it stands after k marks. -/
structure MkZ (w : World) (g len k : Nat) (B : Nat) (wr : World) : Prop where
  below : Below B w wr
  cell : ∀ j, j < len → ∃ v, wr.cell? ⟨g, j, none⟩ = some v ∧ (j < k → v = .complex .f32 (mz j).1 (mz j).2)
  free : ∀ j, wr.frozen? ⟨g, j, none⟩ = false
theorem MkZ.start {B : Nat} {w : World} {a : Option Addr} {cap : Nat} {zs : List (Nat × Nat)} {g : Nat} {cur : Array Value} (hg : w.heap[g]? = some (.cells cur 55 (0, 0))) (hl : zs.length ≤ cur.size) : MkZ w g zs.length 0 B w := by
  refine ⟨Below.refl _ _, fun j hj => ?_, fun j => ?_⟩
  · have hj2 : j < cur.size := by omega
    exact ⟨cur[j], by simp [World.cell?, hg, hj2], fun h => absurd h (Nat.not_lt_zero _)⟩
  · simp [World.frozen?, hg]
theorem MkZ.step {w wr : World} {g len k B : Nat} (h : MkZ w g len k B wr) (hk : k < len) (hB : B ≤ g) : MkZ w g len (k + 1) B (wr.setCell ⟨g, k, none⟩ (.complex .f32 (mz k).1 (mz k).2)) := by
  refine ⟨h.below.setCell (by simpa using hB) _, fun j hj => ?_, fun j => ?_⟩
  · obtain ⟨v, hc, hv⟩ := h.cell j hj
    by_cases e : j = k
    · subst e
      exact ⟨_, World.cell?_setCell_same _ _ _ hc, fun _ => rfl⟩
    · have e2 : (⟨g, k, none⟩ : Addr) ≠ ⟨g, j, none⟩ := by
        intro h; injection h with h1 h2; exact e h2.symm
      refine ⟨v, by rw [World.cell?_setCell_other _ _ _ _ e2, hc], fun hj2 => hv (by omega)⟩
  · simp [h.free j]
/-- The marks stand. -/
def MarkedZ (w : World) (a : Option Addr) (len : Nat) : Prop := 0 < len → ∃ g, a = some ⟨g, 0, none⟩ ∧ g < w.heap.size ∧ ∀ j, j < len → w.cell? ⟨g, j, none⟩ = some (.complex .f32 (mz j).1 (mz j).2)
theorem MarkedZ.below {w w' : World} {a : Option Addr} {len : Nat} (h : MarkedZ w a len) (b : Below w.heap.size w w') : MarkedZ w' a len := by
  intro h0
  obtain ⟨g, ha, hg, hc⟩ := h h0
  exact ⟨g, ha, Nat.lt_of_lt_of_le hg b.size, fun j hj => by rw [b.cell (p := ⟨g, j, none⟩) hg]; exact hc j hj⟩
set_option maxHeartbeats 1000000 in
theorem markZ (B : Nat) (a : Option Addr) (len cap : Nat) (zs : List (Nat × Nat)) (w : World) (h : PkZ B w (.slice a len cap) zs) (hl : len ≤ 256) : Calls Tryd.prog 23 #[.slice a len cap, .int .i64 1] w fun e w' => e = .returned (.int .i64 ((len : Int) + 1)) ∧ MarkedZ w' a len ∧ Below B w w' := by
  obtain ⟨hlz, -⟩ := h.slV
  by_cases h0 : len = 0
  · subst h0
    go_enter Tryd.func23, Tryd.ntmps23
    go_wp2
    go_loopw [1, 5] (fun n i wr => n = .int .i64 1 ∧ i = .int .i64 (0 : Nat) ∧ wr = w) (fun _ _ _ => 0)
    case atStart => exact ⟨rfl, rfl, rfl⟩
    case round =>
      obtain ⟨rfl, rfl, rfl⟩ := hrel
      go_wp2
      go_ret
      exact ⟨rfl, fun h => absurd h (Nat.not_lt_zero _), Below.refl _ _⟩
  · obtain ⟨a', cap', hv, h2⟩ := h
    injection hv with e1 e2 e3
    subst e1
    obtain ⟨g, cur, rfl, hB, hg, hcur, -⟩ := h2 (by omega)
    have HST := hid (MkZ.start (B := B) (a := none) (cap := 0) hg hcur)
    have HGL := hid ((Array.getElem?_eq_some_iff.1 hg).1)
    rw [← hlz] at HST
    clear h2 hg hcur e2 e3 hlz
    go_enter Tryd.func23, Tryd.ntmps23
    go_wp2
    go_loopw [1, 5] (fun n i wr => ∃ k : Nat, k ≤ len ∧ n = .int .i64 ((k : Int) + 1) ∧ i = .int .i64 k ∧ MkZ w g len k B wr) (fun _ i _ => len - (intOf i).toNat)
    case atStart => exact ⟨0, Nat.zero_le _, rfl, rfl, HST.out⟩
    case round =>
      obtain ⟨k, hk, rfl, rfl, hmk⟩ := hrel
      have HMK := hid hmk
      by_cases hlt : k < len
      · obtain ⟨v, hc, -⟩ := hmk.cell k hlt
        have hf := hmk.free k
        have hcv := mz_run k (by omega)
        clear hmk
        go_wp2
        go_roundw
        case rel => exact ⟨k + 1, by omega, by go_num, by go_num, HMK.out.step hlt hB⟩
        case measure => simp [intOf]; omega
      · obtain rfl : k = len := by omega
        clear hmk
        go_wp2
        go_ret
        refine ⟨rfl, fun _ => ⟨g, rfl, Nat.lt_of_lt_of_le HGL.out HMK.out.below.size, fun j hj => ?_⟩, HMK.out.below⟩
        obtain ⟨v, hc, hv⟩ := HMK.out.cell j hj
        rw [hc, hv hj]
set_option maxHeartbeats 1000000 in
theorem heldZ (a : Option Addr) (len cap : Nat) (w : World) (h : MarkedZ w a len) (hl : len ≤ 256) : Calls Tryd.prog 24 #[.slice a len cap, .int .i64 1] w fun e w' => e = .returned (.int .i64 ((len : Int) + 1)) ∧ w' = w := by
  have H := hid h
  clear h
  go_enter Tryd.func24, Tryd.ntmps24
  go_wp2
  go_loop [1, 5] (fun n i => ∃ k : Nat, k ≤ len ∧ n = .int .i64 ((k : Int) + 1) ∧ i = .int .i64 k) (fun _ i => len - (intOf i).toNat)
  case atStart => exact ⟨0, Nat.zero_le _, rfl, rfl⟩
  case round =>
    obtain ⟨k, hk, rfl, rfl⟩ := hrel
    by_cases hlt : k < len
    · obtain ⟨g, rfl, hg, hc⟩ := H.out (by omega)
      have hc1 := hc k hlt
      have hcv := mz_run k (by omega)
      have hnn := mz_nan k (by omega)
      clear hc
      go_wp2
      go_round
      case rel => exact ⟨k + 1, by omega, by go_num, by go_num⟩
      case measure => simp [intOf]; omega
    · obtain rfl : k = len := by omega
      go_wp2
      go_ret
      exact ⟨rfl, rfl⟩
end Walk
end Go.Proofs.YtimablpgikebgaaDoor
