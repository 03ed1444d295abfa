/- Games: copies, equality and sizes of lists of integers. No condition. -/
import Derived.Test.YtlbmmecjiopbbaaChecked
import Derived.Test.YtlbmmecjiopbbaaFlo
import Derived.Test.YtlbmmecjiopbbaaRowf
import Derived.Deep.RegionWith
import Derived.BigRegion
namespace Go.Proofs.Ytlbmmecjiopbbaa
open Go.RowKit Flo Sl
set_option linter.unusedVariables false
namespace TryWalk
theorem infoI : (Try.prog.info? 2).map (fun i => (i.zero, i.size, i.bytes)) = some (some (.int .i64 0), 1, 8) := by kernel_rfl
theorem mkI (n : Nat) (h : n ≤ 1048576) (w : World) : (Instr.makeSlice 22 (.int .i64 n) (.int .i64 n)).run Try.prog w = .ok (.slice (some ⟨w.heap.size, 0, none⟩) n n) (w.alloc (.cells (madeCells #[.int .i64 0] n) 2)) := by
  obtain ⟨i0, hi, hz0, hz1, hz2⟩ := info_parts infoI
  have := run_make (P := Try.prog) w 22 2 i0 (.int .i64 0) Try.underlying22 hi hz0 .i64 .i64 n n (by omega) (Int.le_refl _) (by rw [hz2]; omega) (by omega)
  rw [hz1] at this
  simpa [Value.cells] using this
/-- It returns a new list of integers. -/
def RetI (len : Nat) (xs : List Int) (w : World) (e : Ending) (w' : World) : Prop := e = .returned (.slice (some ⟨w.heap.size, 0, none⟩) len len) ∧ SlV (Value.int .i64) w' (some ⟨w.heap.size, 0, none⟩) len xs ∧ Below w.heap.size w w' ∧ w.heap.size < w'.heap.size
theorem slOff {α : Type} [Inhabited α] {f : α → Value} {w : World} {b len : Nat} {xs : List α} (h : SlV f w (some ⟨b, 0, none⟩) len xs) (p : Addr) (v : Value) (hp : b ≠ p.block) : SlV f (w.setCell p v) (some ⟨b, 0, none⟩) len xs := by
  refine ⟨h.1, fun h0 => ?_⟩
  obtain ⟨b1, o1, ha, hlt, hc⟩ := h.2 h0
  obtain ⟨rfl, rfl⟩ : b = b1 ∧ 0 = o1 := by
    injection ha with h; injection h with h1 h2 h3; exact ⟨h1, h2⟩
  refine ⟨b, 0, rfl, by simpa [World.setCell] using hlt, fun i hi => ?_⟩
  have e2 : p ≠ (⟨b, 0 + i, none⟩ : Addr) := by
    intro h; subst h; exact hp rfl
  rw [World.cell?_setCell_other _ _ _ _ e2]
  exact hc i hi
set_option maxHeartbeats 400000 in
theorem toI (a : Option Addr) (len cap : Nat) (xs : List Int) (w : World) (h : SlV (Value.int .i64) w a len xs) (hl : len ≤ 1048576) : Calls Try.prog 43 #[.slice a len cap] w (RetI len xs w) := by
  have hmk := mkI len hl
  have H := hid h
  clear h
  go_enter Try.func43, Try.ntmps43
  go_wp2
  have hst := hid (Cp.start (f := Value.int .i64) w len (.int .i64 0) 2 xs)
  go_loopw [4] (fun i wr => ∃ k : Nat, k ≤ len ∧ i = .int .i64 k ∧ Cp (Value.int .i64) w len (.int .i64 0) xs k wr) (fun i _ => len - (intOf i).toNat)
  case atStart => exact ⟨0, Nat.zero_le _, rfl, hst.out⟩
  case round =>
    obtain ⟨k, hk, rfl, hcp⟩ := hrel
    have HC := hid hcp
    by_cases hlt : k < len
    · obtain ⟨b, off, rfl, hb, hc⟩ := H.out.2 (by omega)
      have hc1 : wr.cell? ⟨b, off + k, none⟩ = some (.int .i64 (xs.getD k 0)) := by
        rw [hcp.below.cell (p := ⟨b, off + k, none⟩) hb]; exact hc k hlt
      have hc2 : wr.cell? ⟨w.heap.size, k, none⟩ = some (.int .i64 0) := by rw [hcp.cell k hlt, if_neg (by omega)]
      have hf2 := hcp.free k
      clear hcp hc
      go_wp2
      go_roundw
      case rel => exact ⟨k + 1, by omega, by go_num, by have := HC.out.step hlt; simpa using this⟩
      case measure => simp [intOf]; omega
    · obtain rfl : k = len := by omega
      clear hcp
      go_wp2
      go_ret
      exact ⟨rfl, HC.out.done H.out.1, HC.out.below, by rw [HC.out.size]; omega⟩
theorem same_iff {xs ys : List Int} (h : xs.length = ys.length) : xs = ys ↔ ∀ j, j < xs.length → xs.getD j 0 = ys.getD j 0 := by
  constructor
  · rintro rfl j _; rfl
  · intro g
    apply List.ext_getElem h
    intro i h1 h2
    have := g i h1
    rw [List.getD_eq_getElem?_getD, List.getD_eq_getElem?_getD, List.getElem?_eq_getElem h1, List.getElem?_eq_getElem h2] at this
    exact this
set_option maxHeartbeats 400000 in
theorem eqI (a b : Option Addr) (la lb ca cb : Nat) (xs ys : List Int) (w : World) (h : SlV (Value.int .i64) w a la xs) (g : SlV (Value.int .i64) w b lb ys) (hla : la ≤ 1048576) (hlb : lb ≤ 1048576) : Calls Try.prog 45 #[.slice a la ca, .slice b lb cb] w fun e w' => e = .returned (.bool (decide (xs = ys))) ∧ ∃ n, w' = w.drewN n := by
  by_cases hl : la = lb
  · subst hl
    have H := hid h
    have G := hid g
    clear h g
    have hx := hid (same_iff (xs := xs) (ys := ys) (H.out.1.trans G.out.1.symm))
    obtain ⟨d, hd⟩ : ∃ d, d = decide (xs = ys) := ⟨_, rfl⟩
    rw [← hd]
    have HD := hid hd
    clear hd
    go_enter Try.func45, Try.ntmps45
    go_wp2
    go_loopw [5] (fun i wr => ∃ k n : Nat, k ≤ la ∧ i = .int .i64 k ∧ wr = w.drewN n ∧ ∀ j, j < k → xs.getD j 0 = ys.getD j 0) (fun i _ => la - (intOf i).toNat)
    case atStart => exact ⟨0, 0, Nat.zero_le _, rfl, rfl, fun _ h => absurd h (Nat.not_lt_zero _)⟩
    case round =>
      obtain ⟨k, n, hk, rfl, rfl, hall⟩ := hrel
      have HA := hid hall
      clear hall
      by_cases hlt : k < la
      · obtain ⟨b1, off1, rfl, hb1, hc1⟩ := H.out.2 (by omega)
        obtain ⟨b2, off2, rfl, hb2, hc2⟩ := G.out.2 (by omega)
        have hd1 : w.cell? ⟨b1, off1 + k, none⟩ = some (.int .i64 (xs.getD k 0)) := hc1 k hlt
        have hd2 : w.cell? ⟨b2, off2 + k, none⟩ = some (.int .i64 (ys.getD k 0)) := hc2 k hlt
        clear hc1 hc2
        by_cases hxy : xs.getD k 0 = ys.getD k 0
        · have HX := hid hxy
          rw [← hxy] at hd2
          generalize xs.getD k 0 = x at hd1 hd2
          clear hxy
          go_wp2_with fail
          go_region
          all_goals (go_wp2_with fail; exact ⟨⟨k + 1, _, by omega, by go_num, rfl, fun j hj => by
            rcases Nat.lt_succ_iff_lt_or_eq.mp hj with h | h
            · exact HA.out j h
            · subst h; exact HX.out⟩, by simp [intOf]; omega⟩)
        · obtain rfl : d = false := by
            rw [HD.out]; simp only [decide_eq_false_iff_not]; intro h; exact hxy (by rw [h])
          have hbb : (xs.getD k 0 != ys.getD k 0) = true := by simpa using hxy
          generalize xs.getD k 0 = x at *
          generalize ys.getD k 0 = y at *
          go_wp2_with fail
          go_region
          all_goals (go_wp2_with fail; go_ret; exact ⟨rfl, _, rfl⟩)
      · obtain rfl : k = la := by omega
        obtain rfl : d = true := by
          rw [HD.out]; simp only [decide_eq_true_eq]; exact hx.out.mpr (fun j hj => HA.out j (by rw [← H.out.1]; exact hj))
        go_wp2
        go_ret
        exact ⟨rfl, _, rfl⟩
  · have hne : decide (xs = ys) = false := by
      simp only [decide_eq_false_iff_not]; intro e; subst e; exact hl (h.1.symm.trans g.1)
    rw [hne]
    have hi : ((la : Int) != (lb : Int)) = true := by simp; omega
    have hi2 : ((la : Int) == (lb : Int)) = false := by simp; omega
    go_enter Try.func45, Try.ntmps45
    go_wp2
    go_ret
    exact ⟨rfl, 0, rfl⟩
set_option maxHeartbeats 400000 in
theorem eqS (a b : Option Addr) (la lb ca cb : Nat) (xs ys : List Int) (w : World) (h : SlV (Value.int .i64) w a la xs) (g : SlV (Value.int .i64) w b lb ys) (hla : la ≤ 1048576) (hlb : lb ≤ 1048576) : Calls Try.prog 77 #[.slice a la ca, .slice b lb cb] w fun e w' => e = .returned (.bool (decide (xs = ys))) ∧ ∃ n, w' = w.drewN n := by
  by_cases hl : la = lb
  · subst hl
    have H := hid h
    have G := hid g
    clear h g
    have hx := hid (same_iff (xs := xs) (ys := ys) (H.out.1.trans G.out.1.symm))
    obtain ⟨d, hd⟩ : ∃ d, d = decide (xs = ys) := ⟨_, rfl⟩
    rw [← hd]
    have HD := hid hd
    clear hd
    go_enter Try.func77, Try.ntmps77
    go_wp2
    go_loopw [5] (fun i wr => ∃ k n : Nat, k ≤ la ∧ i = .int .i64 k ∧ wr = w.drewN n ∧ ∀ j, j < k → xs.getD j 0 = ys.getD j 0) (fun i _ => la - (intOf i).toNat)
    case atStart => exact ⟨0, 0, Nat.zero_le _, rfl, rfl, fun _ h => absurd h (Nat.not_lt_zero _)⟩
    case round =>
      obtain ⟨k, n, hk, rfl, rfl, hall⟩ := hrel
      have HA := hid hall
      clear hall
      by_cases hlt : k < la
      · obtain ⟨b1, off1, rfl, hb1, hc1⟩ := H.out.2 (by omega)
        obtain ⟨b2, off2, rfl, hb2, hc2⟩ := G.out.2 (by omega)
        have hd1 : w.cell? ⟨b1, off1 + k, none⟩ = some (.int .i64 (xs.getD k 0)) := hc1 k hlt
        have hd2 : w.cell? ⟨b2, off2 + k, none⟩ = some (.int .i64 (ys.getD k 0)) := hc2 k hlt
        clear hc1 hc2
        by_cases hxy : xs.getD k 0 = ys.getD k 0
        · have HX := hid hxy
          rw [← hxy] at hd2
          generalize xs.getD k 0 = x at hd1 hd2
          clear hxy
          go_wp2_with fail
          go_region
          all_goals (go_wp2_with fail; exact ⟨⟨k + 1, _, by omega, by go_num, rfl, fun j hj => by
            rcases Nat.lt_succ_iff_lt_or_eq.mp hj with h | h
            · exact HA.out j h
            · subst h; exact HX.out⟩, by simp [intOf]; omega⟩)
        · obtain rfl : d = false := by
            rw [HD.out]; simp only [decide_eq_false_iff_not]; intro h; exact hxy (by rw [h])
          have hbb : (xs.getD k 0 != ys.getD k 0) = true := by simpa using hxy
          generalize xs.getD k 0 = x at *
          generalize ys.getD k 0 = y at *
          go_wp2_with fail
          go_region
          all_goals (go_wp2_with fail; go_ret; exact ⟨rfl, _, rfl⟩)
      · obtain rfl : k = la := by omega
        obtain rfl : d = true := by
          rw [HD.out]; simp only [decide_eq_true_eq]; exact hx.out.mpr (fun j hj => HA.out j (by rw [← H.out.1]; exact hj))
        go_wp2
        go_ret
        exact ⟨rfl, _, rfl⟩
  · have hne : decide (xs = ys) = false := by
      simp only [decide_eq_false_iff_not]; intro e; subst e; exact hl (h.1.symm.trans g.1)
    rw [hne]
    have hi : ((la : Int) != (lb : Int)) = true := by simp; omega
    have hi2 : ((la : Int) == (lb : Int)) = false := by simp; omega
    go_enter Try.func77, Try.ntmps77
    go_wp2
    go_ret
    exact ⟨rfl, 0, rfl⟩
set_option maxHeartbeats 400000 in
theorem eqP (a b : Option Addr) (la lb ca cb : Nat) (xs ys : List Int) (w : World) (h : SlV (Value.int .i64) w a la xs) (g : SlV (Value.int .i64) w b lb ys) (hla : la ≤ 1048576) (hlb : lb ≤ 1048576) : Calls Try.prog 78 #[.slice a la ca, .slice b lb cb] w fun e w' => e = .returned (.bool (decide (xs = ys))) ∧ ∃ n, w' = w.drewN n := by
  by_cases hl : la = lb
  · subst hl
    have H := hid h
    have G := hid g
    clear h g
    have hx := hid (same_iff (xs := xs) (ys := ys) (H.out.1.trans G.out.1.symm))
    obtain ⟨d, hd⟩ : ∃ d, d = decide (xs = ys) := ⟨_, rfl⟩
    rw [← hd]
    have HD := hid hd
    clear hd
    go_enter Try.func78, Try.ntmps78
    go_wp2
    go_loopw [5, 13] (fun x i wr => ∃ k n : Nat, k ≤ la ∧ i = .int .i64 k ∧ wr = w.drewN n ∧ ∀ j, j < k → xs.getD j 0 = ys.getD j 0) (fun x i _ => la - (intOf i).toNat)
    case atStart => exact ⟨0, 0, Nat.zero_le _, rfl, rfl, fun _ h => absurd h (Nat.not_lt_zero _)⟩
    case round =>
      obtain ⟨k, n, hk, rfl, rfl, hall⟩ := hrel
      have HA := hid hall
      clear hall
      by_cases hlt : k < la
      · obtain ⟨b1, off1, rfl, hb1, hc1⟩ := H.out.2 (by omega)
        obtain ⟨b2, off2, rfl, hb2, hc2⟩ := G.out.2 (by omega)
        have hd1 : w.cell? ⟨b1, off1 + k, none⟩ = some (.int .i64 (xs.getD k 0)) := hc1 k hlt
        have hd2 : w.cell? ⟨b2, off2 + k, none⟩ = some (.int .i64 (ys.getD k 0)) := hc2 k hlt
        clear hc1 hc2
        by_cases hxy : xs.getD k 0 = ys.getD k 0
        · have HX := hid hxy
          rw [← hxy] at hd2
          generalize xs.getD k 0 = x at hd1 hd2
          clear hxy
          go_wp2_with fail
          go_region
          all_goals (go_wp2_with fail; exact ⟨⟨k + 1, _, by omega, by go_num, rfl, fun j hj => by
            rcases Nat.lt_succ_iff_lt_or_eq.mp hj with h | h
            · exact HA.out j h
            · subst h; exact HX.out⟩, by simp [intOf]; omega⟩)
        · obtain rfl : d = false := by
            rw [HD.out]; simp only [decide_eq_false_iff_not]; intro h; exact hxy (by rw [h])
          have hbb : (xs.getD k 0 != ys.getD k 0) = true := by simpa using hxy
          generalize xs.getD k 0 = x at *
          generalize ys.getD k 0 = y at *
          go_wp2_with fail
          go_region
          all_goals (go_wp2_with fail; go_ret; exact ⟨rfl, _, rfl⟩)
      · obtain rfl : k = la := by omega
        obtain rfl : d = true := by
          rw [HD.out]; simp only [decide_eq_true_eq]; exact hx.out.mpr (fun j hj => HA.out j (by rw [← H.out.1]; exact hj))
        go_wp2
        go_ret
        exact ⟨rfl, _, rfl⟩
  · have hne : decide (xs = ys) = false := by
      simp only [decide_eq_false_iff_not]; intro e; subst e; exact hl (h.1.symm.trans g.1)
    rw [hne]
    have hi : ((la : Int) != (lb : Int)) = true := by simp; omega
    have hi2 : ((la : Int) == (lb : Int)) = false := by simp; omega
    go_enter Try.func78, Try.ntmps78
    go_wp2
    go_ret
    exact ⟨rfl, 0, rfl⟩
theorem szI (a : Option Addr) (len cap m : Nat) (w : World) (h : len ≤ m) (hm : m ≤ 1048576) : Calls Try.prog 76 #[.slice a len cap, .int .i64 m] w fun e w' => e = .returned (.int .i64 ((m - len : Nat) : Int)) ∧ w' = w := by
  have hd : ((m : Int) - (len : Int)) = ((m - len : Nat) : Int) := by omega
  go_enter Try.func76, Try.ntmps76
  go_wp2
  go_ret
  exact ⟨by go_num, rfl⟩
theorem szINo (a : Option Addr) (len cap m : Nat) (w : World) (h : m < len) (hm : m ≤ 1048576) (hx : len ≤ maxLen) : Calls Try.prog 76 #[.slice a len cap, .int .i64 m] w fun e w' => e = .returned (.int .i64 (-1)) ∧ w' = w := by
  unfold maxLen at hx
  go_enter Try.func76, Try.ntmps76
  go_wp2
  go_ret
  exact ⟨rfl, rfl⟩
theorem size3 (w : World) (a b c : Obj) : (((w.alloc a).alloc b).alloc c).heap.size = w.heap.size + 1 + 1 + 1 := by simp
/-! ### worths -/
def WV (p : Int) (a : Option Addr) (len cap : Nat) : Value := .agg #[.int .i64 p, .slice a len cap]
theorem szW (p : Int) (a : Option Addr) (len cap m : Nat) (w : World) (h : len ≤ m) (hm : m ≤ 1048576) : Calls Try.prog 21 #[.agg #[.int .i64 p, .slice a len cap], .int .i64 m] w fun e w' => e = .returned (.int .i64 ((m - len : Nat) : Int)) ∧ Below w.heap.size w w' := by
  obtain ⟨n, hn⟩ : ∃ n, m - len = n := ⟨_, rfl⟩
  have hn2 : n ≤ 1048576 := by omega
  rw [hn]
  go_enter Try.func21, Try.ntmps21
  go_wp2_with fail
  refine (szI a len cap m _ h hm).mono ?_
  rintro e w' ⟨rfl, rfl⟩
  rw [hn]
  go_wp2_with fail
  go_ret
  exact ⟨rfl, by repeat (first | exact Below.refl _ _ | with_reducible assumption | refine Below.alloc ?_ (by simp <;> omega) _ | refine Below.setCell ?_ (by simp <;> omega) _ | refine below_drewN ?_ _)⟩
theorem szWNo (p : Int) (a : Option Addr) (len cap m : Nat) (w : World) (h : m < len) (hm : m ≤ 1048576) (hx : len ≤ maxLen) : Calls Try.prog 21 #[.agg #[.int .i64 p, .slice a len cap], .int .i64 m] w fun e w' => e = .returned (.int .i64 (-1)) ∧ Below w.heap.size w w' := by
  go_enter Try.func21, Try.ntmps21
  go_wp2_with fail
  refine (szINo a len cap m _ h hm hx).mono ?_
  rintro e w' ⟨rfl, rfl⟩
  go_wp2_with fail
  go_ret
  exact ⟨rfl, by repeat (first | exact Below.refl _ _ | with_reducible assumption | refine Below.alloc ?_ (by simp <;> omega) _ | refine Below.setCell ?_ (by simp <;> omega) _ | refine below_drewN ?_ _)⟩
def RetW (p : Int) (len : Nat) (xs : List Int) (w : World) (e : Ending) (w' : World) : Prop := ∃ a, e = .returned (.agg #[.int .i64 p, .slice a len len]) ∧ SlV (Value.int .i64) w' a len xs ∧ Below w.heap.size w w'
theorem toW (p : Int) (a : Option Addr) (len cap : Nat) (xs : List Int) (w : World) (h : SlV (Value.int .i64) w a len xs) (hl : len ≤ 1048576) : Calls Try.prog 23 #[.agg #[.int .i64 p, .slice a len cap]] w (RetW p len xs w) := by
  go_enter Try.func23, Try.ntmps23
  go_wp2_with fail
  have bw : Below w.heap.size w (((w.alloc (.cells #[.int .i64 p, .slice a len cap] 24)).alloc (.cells #[.int .i64 0, .slice none 0 0] 27)).alloc (.cells #[.int .i64 p, .slice none 0 0] 27)) := by repeat (first | exact Below.refl _ _ | with_reducible assumption | refine Below.alloc ?_ (by simp <;> omega) _ | refine Below.setCell ?_ (by simp <;> omega) _ | refine below_drewN ?_ _)
  refine (toI a len cap xs _ (h.below bw) hl).mono ?_
  rintro e w1 ⟨rfl, s1, b1, -⟩
  have e0 : w1.cell? ⟨w.heap.size + 1 + 1, 0, none⟩ = some (.int .i64 p) := (b1.cell (p := ⟨w.heap.size + 1 + 1, 0, none⟩) (by simp)).trans (by go_cell)
  have e1 : w1.cell? ⟨w.heap.size + 1 + 1, 1, none⟩ = some (.slice none 0 0) := (b1.cell (p := ⟨w.heap.size + 1 + 1, 1, none⟩) (by simp)).trans (by go_cell)
  have f1 : w1.frozen? ⟨w.heap.size + 1 + 1, 1, none⟩ = false := (b1.frozen (p := ⟨w.heap.size + 1 + 1, 1, none⟩) (by simp)).trans (by go_cell)
  have g0 : w1.cell? ⟨w.heap.size + 1, 0, none⟩ = some (.int .i64 0) := (b1.cell (p := ⟨w.heap.size + 1, 0, none⟩) (by simp)).trans (by go_cell)
  have g1 : w1.cell? ⟨w.heap.size + 1, 1, none⟩ = some (.slice none 0 0) := (b1.cell (p := ⟨w.heap.size + 1, 1, none⟩) (by simp)).trans (by go_cell)
  have k0 : w1.frozen? ⟨w.heap.size + 1, 0, none⟩ = false := (b1.frozen (p := ⟨w.heap.size + 1, 0, none⟩) (by simp)).trans (by go_cell)
  have k1 : w1.frozen? ⟨w.heap.size + 1, 1, none⟩ = false := (b1.frozen (p := ⟨w.heap.size + 1, 1, none⟩) (by simp)).trans (by go_cell)
  have bw2 := below_to bw b1
  have hsz := b1.size
  clear b1
  go_wp2_with fail
  refine bodyPost_ret (v := .agg #[.int .i64 p, .slice (some ⟨w.heap.size + 1 + 1 + 1, 0, none⟩) len len]) (by simp [results, Try.results23, go_sem, g0, g1]) rfl ⟨_, rfl, ?_, by repeat (first | exact Below.refl _ _ | with_reducible assumption | refine Below.alloc ?_ (by simp <;> omega) _ | refine Below.setCell ?_ (by simp <;> omega) _ | refine below_drewN ?_ _)⟩
  simp only [size3] at s1
  exact slOff (slOff (slOff s1 _ _ (by simp)) _ _ (by simp <;> omega)) _ _ (by simp <;> omega)
def RetD (d : Bool) (w : World) (e : Ending) (w' : World) : Prop := e = .returned (.bool d) ∧ Below w.heap.size w w'
theorem eqW (p q : Int) (a b : Option Addr) (la lb ca cb : Nat) (xs ys : List Int) (w : World) (h : SlV (Value.int .i64) w a la xs) (g : SlV (Value.int .i64) w b lb ys) (hla : la ≤ 1048576) (hlb : lb ≤ 1048576) : Calls Try.prog 25 #[.agg #[.int .i64 p, .slice a la ca], .agg #[.int .i64 q, .slice b lb cb]] w (RetD (decide (p = q ∧ xs = ys)) w) := by
  by_cases hpq : p = q
  · subst hpq
    have hd : decide (p = p ∧ xs = ys) = decide (xs = ys) := by simp
    obtain ⟨d, hd2⟩ : ∃ d, decide (xs = ys) = d := ⟨_, rfl⟩
    rw [hd, hd2]
    have bw : Below w.heap.size w ((w.alloc (.cells #[.int .i64 p, .slice a la ca] 27)).alloc (.cells #[.int .i64 p, .slice b lb cb] 27)) := by repeat (first | exact Below.refl _ _ | with_reducible assumption | refine Below.alloc ?_ (by simp <;> omega) _ | refine Below.setCell ?_ (by simp <;> omega) _ | refine below_drewN ?_ _)
    go_enter Try.func25, Try.ntmps25
    go_wp2_with fail
    refine (eqI _ _ _ _ _ _ xs ys _ (h.below bw) (g.below bw) hla hlb).mono ?_
    rintro e w1 ⟨rfl, n, rfl⟩
    rw [hd2]
    clear hd2 hd
    cases d <;> (go_wp2_with fail; go_ret; exact ⟨rfl, by repeat (first | exact Below.refl _ _ | with_reducible assumption | refine Below.alloc ?_ (by simp <;> omega) _ | refine Below.setCell ?_ (by simp <;> omega) _ | refine below_drewN ?_ _)⟩)
  · have hd : decide (p = q ∧ xs = ys) = false := by simp [hpq]
    have hb : (p != q) = true := by simpa using hpq
    rw [hd]
    go_enter Try.func25, Try.ntmps25
    go_wp2_with fail
    go_ret
    exact ⟨rfl, by repeat (first | exact Below.refl _ _ | with_reducible assumption | refine Below.alloc ?_ (by simp <;> omega) _ | refine Below.setCell ?_ (by simp <;> omega) _ | refine below_drewN ?_ _)⟩
theorem sameWS (p q : Int) (a b : Option Addr) (la lb ca cb : Nat) (xs ys : List Int) (w : World) (h : SlV (Value.int .i64) w a la xs) (g : SlV (Value.int .i64) w b lb ys) (hla : la ≤ 1048576) (hlb : lb ≤ 1048576) : Calls Try.prog 22 #[.agg #[.int .i64 p, .slice a la ca], .agg #[.int .i64 q, .slice b lb cb]] w (RetD (decide (p = q ∧ xs = ys)) w) := by
  by_cases hpq : p = q
  · subst hpq
    have hd : decide (p = p ∧ xs = ys) = decide (xs = ys) := by simp
    rw [hd]
    have bw : Below w.heap.size w ((w.alloc (.cells #[.int .i64 p, .slice a la ca] 27)).alloc (.cells #[.int .i64 p, .slice b lb cb] 27)) := by repeat (first | exact Below.refl _ _ | with_reducible assumption | refine Below.alloc ?_ (by simp <;> omega) _ | refine Below.setCell ?_ (by simp <;> omega) _ | refine below_drewN ?_ _)
    go_enter Try.func22, Try.ntmps22
    go_wp2_with fail
    refine (eqS _ _ _ _ _ _ xs ys _ (h.below bw) (g.below bw) hla hlb).mono ?_
    rintro e w1 ⟨rfl, n, rfl⟩
    go_wp2_with fail
    go_ret
    exact ⟨rfl, by repeat (first | exact Below.refl _ _ | with_reducible assumption | refine Below.alloc ?_ (by simp <;> omega) _ | refine Below.setCell ?_ (by simp <;> omega) _ | refine below_drewN ?_ _)⟩
  · have hd : decide (p = q ∧ xs = ys) = false := by simp [hpq]
    have hb : (p == q) = false := by simpa using hpq
    rw [hd]
    go_enter Try.func22, Try.ntmps22
    go_wp2_with fail
    go_ret
    exact ⟨rfl, by repeat (first | exact Below.refl _ _ | with_reducible assumption | refine Below.alloc ?_ (by simp <;> omega) _ | refine Below.setCell ?_ (by simp <;> omega) _ | refine below_drewN ?_ _)⟩
theorem sameWP (p q : Int) (a b : Option Addr) (la lb ca cb : Nat) (xs ys : List Int) (w : World) (h : SlV (Value.int .i64) w a la xs) (g : SlV (Value.int .i64) w b lb ys) (hla : la ≤ 1048576) (hlb : lb ≤ 1048576) : Calls Try.prog 24 #[.agg #[.int .i64 p, .slice a la ca], .agg #[.int .i64 q, .slice b lb cb]] w (RetD (decide (p = q ∧ xs = ys)) w) := by
  by_cases hpq : p = q
  · subst hpq
    have hd : decide (p = p ∧ xs = ys) = decide (xs = ys) := by simp
    rw [hd]
    have bw : Below w.heap.size w ((w.alloc (.cells #[.int .i64 p, .slice a la ca] 27)).alloc (.cells #[.int .i64 p, .slice b lb cb] 27)) := by repeat (first | exact Below.refl _ _ | with_reducible assumption | refine Below.alloc ?_ (by simp <;> omega) _ | refine Below.setCell ?_ (by simp <;> omega) _ | refine below_drewN ?_ _)
    go_enter Try.func24, Try.ntmps24
    go_wp2_with fail
    refine (eqP _ _ _ _ _ _ xs ys _ (h.below bw) (g.below bw) hla hlb).mono ?_
    rintro e w1 ⟨rfl, n, rfl⟩
    go_wp2_with fail
    go_ret
    exact ⟨rfl, by repeat (first | exact Below.refl _ _ | with_reducible assumption | refine Below.alloc ?_ (by simp <;> omega) _ | refine Below.setCell ?_ (by simp <;> omega) _ | refine below_drewN ?_ _)⟩
  · have hd : decide (p = q ∧ xs = ys) = false := by simp [hpq]
    have hb : (p == q) = false := by simpa using hpq
    rw [hd]
    go_enter Try.func24, Try.ntmps24
    go_wp2_with fail
    go_ret
    exact ⟨rfl, by repeat (first | exact Below.refl _ _ | with_reducible assumption | refine Below.alloc ?_ (by simp <;> omega) _ | refine Below.setCell ?_ (by simp <;> omega) _ | refine below_drewN ?_ _)⟩

/-- A variable in block k holds these cells. -/
def Box (w : World) (k : Nat) (vs : List Value) : Prop := k < w.heap.size ∧ ∀ i v, vs[i]? = some v → w.cell? ⟨k, i, none⟩ = some v ∧ w.frozen? ⟨k, i, none⟩ = false
theorem Box.below {w w' : World} {k : Nat} {vs : List Value} (h : Box w k vs) (b : Below w.heap.size w w') : Box w' k vs :=
  ⟨Nat.lt_of_lt_of_le h.1 b.size, fun i v hv => ⟨(b.cell (p := ⟨k, i, none⟩) h.1).trans (h.2 i v hv).1, (b.frozen (p := ⟨k, i, none⟩) h.1).trans (h.2 i v hv).2⟩⟩
theorem Box.dr {w : World} {k : Nat} {vs : List Value} (h : Box w k vs) (n : Nat) : Box (w.drewN n) k vs := h.below ((below_drewN (Below.refl _ _) n))
theorem Box.al {w : World} {k : Nat} {vs : List Value} (h : Box w k vs) (o : Obj) : Box (w.alloc o) k vs := h.below ((Below.refl _ _).alloc (Nat.le_refl _) _)
theorem Box.new (w : World) (vs : List Value) (T : TypeId) : Box (w.alloc (.cells vs.toArray T (0, 0))) w.heap.size vs := by
  have hb : (w.alloc (.cells vs.toArray T)).heap[w.heap.size]? = some (.cells vs.toArray T (0, 0)) := (MapKept.heap_alloc w _).1
  refine ⟨by simp, fun i v hv => ⟨?_, ?_⟩⟩
  · simp only [World.cell?, hb]
    simpa using hv
  · simp only [World.frozen?, hb]; simp
end TryWalk
end Go.Proofs.Ytlbmmecjiopbbaa
