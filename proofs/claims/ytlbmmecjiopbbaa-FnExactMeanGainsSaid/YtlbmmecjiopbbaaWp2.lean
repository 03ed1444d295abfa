/- Games: two machines at their beginning. No condition. -/
import Derived.Test.YtlbmmecjiopbbaaWp1
import Derived.Test.YtlbmmecjiopbbaaWg10
import Derived.Deep.RegionHeld3
namespace Go.Proofs.Ytlbmmecjiopbbaa
open Go.RowKit Flo Sl Pg
set_option linter.unusedVariables false
set_option linter.unusedSimpArgs false
attribute [local go_sem ↓] Go.wp_at_zero Go.wp_at_succ
namespace TryWalk
def twoB (r c : Int) (xs ys am an bm bn : List Int) : Bool := validG r c xs ys && validP r c am an && validP c r bm bn
set_option maxHeartbeats 4000000 in
theorem l02Two (r c : Int) (a : Option Addr) (la ca : Nat) (xs : List Int) (b : Option Addr) (lb cb : Nat) (ys : List Int) (m1 : Option Addr) (n1 k1 : Nat) (am : List Int) (m2 : Option Addr) (n2 k2 : Nat) (an : List Int) (m3 : Option Addr) (n3 k3 : Nat) (bm : List Int) (m4 : Option Addr) (n4 k4 : Nat) (bn : List Int) (kg ka kb : Nat) (w : World)
    (hg : Box w kg [.int .i64 r, .int .i64 c, .slice a la ca, .slice b lb cb]) (ha : Box w ka [.slice m1 n1 k1, .slice m2 n2 k2]) (hb : Box w kb [.slice m3 n3 k3, .slice m4 n4 k4])
    (hA : SlV (Value.int .i64) w a la xs) (hB : SlV (Value.int .i64) w b lb ys) (h1 : SlV (Value.int .i64) w m1 n1 am) (h2 : SlV (Value.int .i64) w m2 n2 an) (h3 : SlV (Value.int .i64) w m3 n3 bm) (h4 : SlV (Value.int .i64) w m4 n4 bn)
    (hla : la ≤ 1048576) (hlb : lb ≤ 1048576) (l1 : n1 ≤ 1048576) (l2 : n2 ≤ 1048576) (l3 : n3 ≤ 1048576) (l4 : n4 ≤ 1048576) : Calls Try.prog 109 #[.pointer (some ⟨kg, 0, none⟩), .pointer (some ⟨ka, 0, none⟩), .pointer (some ⟨kb, 0, none⟩)] w (RetB (twoB r c xs ys am an bm bn) w) := by
  have f0 := (hg.2 0 _ rfl).1
  have f1 := (hg.2 1 _ rfl).1
  obtain ⟨v0, hv0⟩ : ∃ v, validG r c xs ys = v := ⟨_, rfl⟩
  obtain ⟨v1, hv1⟩ : ∃ v, validP r c am an = v := ⟨_, rfl⟩
  obtain ⟨v2, hv2⟩ : ∃ v, validP c r bm bn = v := ⟨_, rfl⟩
  have H0 : ∀ n, Calls Try.prog 85 #[.pointer (some ⟨kg, 0, none⟩)] (w.drewN n) (fun e w' => e = .returned (.bool v0) ∧ ∃ m, w' = (w.drewN n).drewN m) := fun n => by rw [← hv0]; exact l02Is r c a la ca xs b lb cb ys kg _ (hg.dr n) (hA.drewN n) (hB.drewN n) hla hlb
  have H1 : ∀ n, Calls Try.prog 81 #[.pointer (some ⟨ka, 0, none⟩), .int .i64 r, .int .i64 c] (w.drewN n) (fun e w' => e = .returned (.bool v1) ∧ ∃ m, w' = (w.drewN n).drewN m) := fun n => by rw [← hv1]; exact l02Player m1 n1 k1 am m2 n2 k2 an r c ka _ (ha.dr n) (h1.drewN n) (h2.drewN n) l1 l2
  have H2 : ∀ n, Calls Try.prog 81 #[.pointer (some ⟨kb, 0, none⟩), .int .i64 c, .int .i64 r] (w.drewN n) (fun e w' => e = .returned (.bool v2) ∧ ∃ m, w' = (w.drewN n).drewN m) := fun n => by rw [← hv2]; exact l02Player m3 n3 k3 bm m4 n4 k4 bn c r kb _ (hb.dr n) (h3.drewN n) (h4.drewN n) l3 l4
  have he : twoB r c xs ys am an bm bn = (v0 && v1 && v2) := by rw [twoB, hv0, hv1, hv2]
  rw [he]
  clear he hv0 hv1 hv2 hg ha hb hA hB h1 h2 h3 h4
  cases v0 with
  | false =>
    rw [Bool.false_and, Bool.false_and]
    go_enter Try.func109, Try.ntmps109
    go_wp2_with fail
    go_quiet ((go_at_call 85; with_reducible exact Calls.quiet_of (H0 _)))
    go_wp2_with fail
    go_ret
    exact ⟨rfl, _, rfl⟩
  | true =>
    cases v1 with
    | false =>
      rw [Bool.true_and, Bool.false_and]
      go_enter Try.func109, Try.ntmps109
      go_wp2_with fail
      go_quiet (first | (go_at_call 85; with_reducible exact Calls.quiet_of (H0 _)) | (go_at_call 81; with_reducible exact Calls.quiet_of (H1 _)))
      go_wp2_with fail
      go_ret
      exact ⟨rfl, _, rfl⟩
    | true =>
      rw [Bool.true_and, Bool.true_and]
      go_enter Try.func109, Try.ntmps109
      go_wp2_with fail
      go_quiet (first | (go_at_call 85; with_reducible exact Calls.quiet_of (H0 _)) | (go_at_call 81; with_reducible exact Calls.quiet_of (H1 _)) | (go_at_call 81; with_reducible exact Calls.quiet_of (H2 _)))
      go_wp2_with fail
      go_ret
      exact ⟨rfl, _, rfl⟩
theorem box_belowB {B : Nat} {w w' : World} {k : Nat} {vs : List Value} (h : Box w k vs) (b : Below B w w') (hk : k < B) : Box w' k vs :=
  ⟨Nat.lt_of_lt_of_le h.1 b.size, fun i v hv => ⟨(b.cell (p := ⟨k, i, none⟩) hk).trans (h.2 i v hv).1, (b.frozen (p := ⟨k, i, none⟩) hk).trans (h.2 i v hv).2⟩⟩
theorem below_cell {B : Nat} {a w : World} (h : Below B a w) (i : Nat) (u : Value) : Below B a (w.setCell ⟨B, i, none⟩ u) := h.setCell (Nat.le_refl _) u
theorem below_toB {B : Nat} {a b c : World} (h : Below B a b) (hB : B ≤ a.heap.size) (g : Below b.heap.size b c) : Below B a c := h.trans (g.mono (Nat.le_trans hB h.size))
/-- Two machines and their states, as one value. -/
def pairV (r c : Int) (A B M1 M2 M3 M4 : Value) (x y : Int) : Value := .agg #[.int .i64 r, .int .i64 c, A, B, M1, M2, M3, M4, .int .i64 x, .int .i64 y]
set_option maxRecDepth 100000 in
set_option maxHeartbeats 8000000 in
theorem paired (r c : Int) (a : Option Addr) (la ca : Nat) (xs : List Int) (b : Option Addr) (lb cb : Nat) (ys : List Int) (m1 : Option Addr) (n1 k1 : Nat) (am : List Int) (m2 : Option Addr) (n2 k2 : Nat) (an : List Int) (m3 : Option Addr) (n3 k3 : Nat) (bm : List Int) (m4 : Option Addr) (n4 k4 : Nat) (bn : List Int) (w : World)
    (hA : SlV (Value.int .i64) w a la xs) (hB : SlV (Value.int .i64) w b lb ys) (h1 : SlV (Value.int .i64) w m1 n1 am) (h2 : SlV (Value.int .i64) w m2 n2 an) (h3 : SlV (Value.int .i64) w m3 n3 bm) (h4 : SlV (Value.int .i64) w m4 n4 bn)
    (hla : la ≤ 1048576) (hlb : lb ≤ 1048576) (l1 : n1 ≤ 1048576) (l2 : n2 ≤ 1048576) (l3 : n3 ≤ 1048576) (l4 : n4 ≤ 1048576) : Calls Try.prog 111 #[.agg #[.int .i64 r, .int .i64 c, .slice a la ca, .slice b lb cb], .agg #[.slice m1 n1 k1, .slice m2 n2 k2], .agg #[.slice m3 n3 k3, .slice m4 n4 k4]] w fun e w' => e = .returned (.tuple #[pairV r c (.slice a la ca) (.slice b lb cb) (.slice m1 n1 k1) (.slice m2 n2 k2) (.slice m3 n3 k3) (.slice m4 n4 k4) 0 0, .bool (twoB r c xs ys am an bm bn)]) ∧ Below w.heap.size w w' := by
  obtain ⟨v0, hv0⟩ : ∃ v, validG r c xs ys = v := ⟨_, rfl⟩
  obtain ⟨v1, hv1⟩ : ∃ v, validP r c am an = v := ⟨_, rfl⟩
  obtain ⟨v2, hv2⟩ : ∃ v, validP c r bm bn = v := ⟨_, rfl⟩
  obtain ⟨W4, hW4⟩ : ∃ W4, ((((w.alloc (.cells #[.int .i64 r, .int .i64 c, .slice a la ca, .slice b lb cb] 44)).alloc (.cells #[.slice m1 n1 k1, .slice m2 n2 k2] 36)).alloc (.cells #[.slice m3 n3 k3, .slice m4 n4 k4] 36)).alloc (.cells #[.int .i64 0, .int .i64 0, .slice none 0 0, .slice none 0 0, .slice none 0 0, .slice none 0 0, .slice none 0 0, .slice none 0 0, .int .i64 0, .int .i64 0] 113)) = W4 := ⟨_, rfl⟩
  have x0 : Box W4 w.heap.size [.int .i64 r, .int .i64 c, .slice a la ca, .slice b lb cb] := by rw [← hW4]; exact (((Box.new w [.int .i64 r, .int .i64 c, .slice a la ca, .slice b lb cb] 44).al _).al _).al _
  have x1 : Box W4 (w.heap.size + 1) [.slice m1 n1 k1, .slice m2 n2 k2] := by rw [← hW4]; have := ((Box.new (w.alloc (.cells #[.int .i64 r, .int .i64 c, .slice a la ca, .slice b lb cb] 44)) [.slice m1 n1 k1, .slice m2 n2 k2] 36).al (.cells #[.slice m3 n3 k3, .slice m4 n4 k4] 36)).al (.cells #[.int .i64 0, .int .i64 0, .slice none 0 0, .slice none 0 0, .slice none 0 0, .slice none 0 0, .slice none 0 0, .slice none 0 0, .int .i64 0, .int .i64 0] 113); simpa using this
  have x2 : Box W4 (w.heap.size + 1 + 1) [.slice m3 n3 k3, .slice m4 n4 k4] := by rw [← hW4]; have := (Box.new ((w.alloc (.cells #[.int .i64 r, .int .i64 c, .slice a la ca, .slice b lb cb] 44)).alloc (.cells #[.slice m1 n1 k1, .slice m2 n2 k2] 36)) [.slice m3 n3 k3, .slice m4 n4 k4] 36).al (.cells #[.int .i64 0, .int .i64 0, .slice none 0 0, .slice none 0 0, .slice none 0 0, .slice none 0 0, .slice none 0 0, .slice none 0 0, .int .i64 0, .int .i64 0] 113); simpa using this
  have x3 : Box W4 (w.heap.size + 1 + 1 + 1) [.int .i64 0, .int .i64 0, .slice none 0 0, .slice none 0 0, .slice none 0 0, .slice none 0 0, .slice none 0 0, .slice none 0 0, .int .i64 0, .int .i64 0] := by rw [← hW4]; have := Box.new (((w.alloc (.cells #[.int .i64 r, .int .i64 c, .slice a la ca, .slice b lb cb] 44)).alloc (.cells #[.slice m1 n1 k1, .slice m2 n2 k2] 36)).alloc (.cells #[.slice m3 n3 k3, .slice m4 n4 k4] 36)) [.int .i64 0, .int .i64 0, .slice none 0 0, .slice none 0 0, .slice none 0 0, .slice none 0 0, .slice none 0 0, .slice none 0 0, .int .i64 0, .int .i64 0] 113; simpa using this
  have hb0 : Below w.heap.size w W4 := by rw [← hW4]; repeat (first | exact Below.refl _ _ | refine Below.alloc ?_ (by simp <;> omega) _)
  have hsz : w.heap.size + 1 + 1 + 1 ≤ W4.heap.size := by rw [← hW4]; simp
  have HW4 := hid hW4
  have HZ := hid x3
  have HSB := hid hsz
  have HB0 := hid hb0
  have HBW : Hid (∀ w', Below (w.heap.size + 1 + 1 + 1) W4 w' → Below w.heap.size w w') := hid (fun w' hb => hb0.trans (hb.mono (by omega)))
  have HK : Hid (∀ w', Below (w.heap.size + 1 + 1 + 1) W4 w' → Below (w.heap.size + 1 + 1 + 1) W4 w' ∧ w'.cell? ⟨w.heap.size, 0, none⟩ = some (.int .i64 r) ∧ w'.cell? ⟨w.heap.size, 1, none⟩ = some (.int .i64 c) ∧ w'.cell? ⟨w.heap.size, 2, none⟩ = some (.slice a la ca) ∧ w'.cell? ⟨w.heap.size, 3, none⟩ = some (.slice b lb cb) ∧ w'.cell? ⟨w.heap.size + 1, 0, none⟩ = some (.slice m1 n1 k1) ∧ w'.cell? ⟨w.heap.size + 1, 1, none⟩ = some (.slice m2 n2 k2) ∧ w'.cell? ⟨w.heap.size + 1 + 1, 0, none⟩ = some (.slice m3 n3 k3) ∧ w'.cell? ⟨w.heap.size + 1 + 1, 1, none⟩ = some (.slice m4 n4 k4)) := hid (fun w' hb => by
    have y0 := box_belowB x0 hb (by omega)
    have y1 := box_belowB x1 hb (by omega)
    have y2 := box_belowB x2 hb (by omega)
    exact ⟨hb, (y0.2 0 _ rfl).1, (y0.2 1 _ rfl).1, (y0.2 2 _ rfl).1, (y0.2 3 _ rfl).1, (y1.2 0 _ rfl).1, (y1.2 1 _ rfl).1, (y2.2 0 _ rfl).1, (y2.2 1 _ rfl).1⟩)
  have H0 : Hid (∀ w', Below (w.heap.size + 1 + 1 + 1) W4 w' → Calls Try.prog 39 #[.agg #[.int .i64 r, .int .i64 c, .slice a la ca, .slice b lb cb]] w' (RetD v0 w')) := hid (fun w' hb' => by have hb := HBW.out w' hb'; rw [← hv0]; exact imValidG r c a la ca xs b lb cb ys w' (hA.below hb) (hB.below hb) hla hlb)
  have H1 : Hid (∀ w', Below (w.heap.size + 1 + 1 + 1) W4 w' → Calls Try.prog 31 #[.agg #[.slice m1 n1 k1, .slice m2 n2 k2], .int .i64 r, .int .i64 c] w' (RetD v1 w')) := hid (fun w' hb' => by have hb := HBW.out w' hb'; rw [← hv1]; exact imValidP m1 n1 k1 am m2 n2 k2 an r c w' (h1.below hb) (h2.below hb) l1 l2)
  have H2 : Hid (∀ w', Below (w.heap.size + 1 + 1 + 1) W4 w' → Calls Try.prog 31 #[.agg #[.slice m3 n3 k3, .slice m4 n4 k4], .int .i64 c, .int .i64 r] w' (RetD v2 w')) := hid (fun w' hb' => by have hb := HBW.out w' hb'; rw [← hv2]; exact imValidP m3 n3 k3 bm m4 n4 k4 bn c r w' (h3.below hb) (h4.below hb) l3 l4)
  have he : twoB r c xs ys am an bm bn = (v0 && v1 && v2) := by rw [twoB, hv0, hv1, hv2]
  rw [he]
  clear he hv0 hv1 hv2 hA hB h1 h2 h3 h4 x0 x1 x2 x3 hb0 hsz hW4
  cases v0 with
  | false =>
    rw [Bool.false_and, Bool.false_and]
    go_enter Try.func111, Try.ntmps111
    go_wp2_with fail
    rw [HW4.out]
    refine wp_region_noPanic ?_
    refine wp_region_held_drew (S := fun w' => Below (w.heap.size + 1 + 1 + 1) W4 w' ∧ w'.cell? ⟨w.heap.size, 0, none⟩ = some (.int .i64 r) ∧ w'.cell? ⟨w.heap.size, 1, none⟩ = some (.int .i64 c) ∧ w'.cell? ⟨w.heap.size, 2, none⟩ = some (.slice a la ca) ∧ w'.cell? ⟨w.heap.size, 3, none⟩ = some (.slice b lb cb) ∧ w'.cell? ⟨w.heap.size + 1, 0, none⟩ = some (.slice m1 n1 k1) ∧ w'.cell? ⟨w.heap.size + 1, 1, none⟩ = some (.slice m2 n2 k2) ∧ w'.cell? ⟨w.heap.size + 1 + 1, 0, none⟩ = some (.slice m3 n3 k3) ∧ w'.cell? ⟨w.heap.size + 1 + 1, 1, none⟩ = some (.slice m4 n4 k4)) (by kernel_rfl) (HK.out _ (Below.refl _ _).drew) (fun hHeld => ?_)
    refine wpAnyH_take (i := 0) (v := ?v0) rfl (by kernel_rfl) (by kernel_rfl) (by kernel_rfl) (fun _ _ _ h => h) (Or.inl ⟨by kernel_rfl, ?hy0⟩) (by assumption) ?rest0
    case hy0 => (intro w hSw; (try dsimp only at hSw); go_simp; try with_reducible rfl)
    case rest0 =>
    try simp only [Act.put, List.setIfInBounds_toArray, List.set_cons_zero, List.set_cons_succ]
    refine wpAnyH_take (i := 1) (v := ?v1) rfl (by kernel_rfl) (by kernel_rfl) (by kernel_rfl) (fun _ _ _ h => h) (Or.inl ⟨by kernel_rfl, ?hy1⟩) (by assumption) ?rest1
    case hy1 => (intro w hSw; (try dsimp only at hSw); go_simp; try with_reducible rfl)
    case rest1 =>
    try simp only [Act.put, List.setIfInBounds_toArray, List.set_cons_zero, List.set_cons_succ]
    refine wpAnyH_take (i := 2) (v := ?v2) rfl (by kernel_rfl) (by kernel_rfl) (by kernel_rfl) (fun _ _ _ h => h) (Or.inl ⟨by kernel_rfl, ?hy2⟩) (by assumption) ?rest2
    case hy2 => (intro w hSw; (try dsimp only at hSw); go_simp; try with_reducible rfl)
    case rest2 =>
    try simp only [Act.put, List.setIfInBounds_toArray, List.set_cons_zero, List.set_cons_succ]
    refine wpAnyH_take (i := 3) (v := ?v3) rfl (by kernel_rfl) (by kernel_rfl) (by kernel_rfl) (fun _ _ _ h => h) (Or.inl ⟨by kernel_rfl, ?hy3⟩) (by assumption) ?rest3
    case hy3 => (intro w hSw; (try dsimp only at hSw); go_simp; try with_reducible rfl)
    case rest3 =>
    try simp only [Act.put, List.setIfInBounds_toArray, List.set_cons_zero, List.set_cons_succ]
    refine wpAnyH_take (i := 4) (v := ?v4) rfl (by kernel_rfl) (by kernel_rfl) (by kernel_rfl) (fun _ _ _ h => h) (Or.inl ⟨by kernel_rfl, ?hy4⟩) (by assumption) ?rest4
    case hy4 => (intro w hSw; (try dsimp only at hSw); go_simp; try with_reducible rfl)
    case rest4 =>
    try simp only [Act.put, List.setIfInBounds_toArray, List.set_cons_zero, List.set_cons_succ]
    refine wpAnyH_ready (rs := [5]) (by kernel_rfl) (by simp) ?_
    refine AllReadyH.cons rfl (fun K hK => ?_) AllReadyH.nil
    go_simp
    go_at_call 39
    refine Calls.mono (H0.out _ ((Below.refl W4.heap.size W4).drew.mono HSB.out)) ?_
    rintro e w5 ⟨rfl, bq⟩
    have y1 := below_to (Below.refl W4.heap.size W4).drew bq
    have hr := HZ.out.below y1
    have r0 := (hr.2 0 _ rfl).1
    have q0 := (hr.2 0 _ rfl).2
    have r1 := (hr.2 1 _ rfl).1
    have q1 := (hr.2 1 _ rfl).2
    have r2 := (hr.2 2 _ rfl).1
    have q2 := (hr.2 2 _ rfl).2
    have r3 := (hr.2 3 _ rfl).1
    have q3 := (hr.2 3 _ rfl).2
    have r4 := (hr.2 4 _ rfl).1
    have q4 := (hr.2 4 _ rfl).2
    have r5 := (hr.2 5 _ rfl).1
    have q5 := (hr.2 5 _ rfl).2
    have r6 := (hr.2 6 _ rfl).1
    have q6 := (hr.2 6 _ rfl).2
    have r7 := (hr.2 7 _ rfl).1
    have q7 := (hr.2 7 _ rfl).2
    have r8 := (hr.2 8 _ rfl).1
    have q8 := (hr.2 8 _ rfl).2
    have r9 := (hr.2 9 _ rfl).1
    have q9 := (hr.2 9 _ rfl).2
    clear hr bq
    try (go_wp2_with fail)
    refine hK.out _ _ (HK.out _ (y1.mono HSB.out)) (fun hHeld => ?_)
    clear hK K
    try simp only [Act.put, List.setIfInBounds_toArray, List.set_cons_zero, List.set_cons_succ]
    refine wpAnyH_take (i := 6) (v := ?v6) rfl (by kernel_rfl) (by kernel_rfl) (by kernel_rfl) (fun _ _ _ h => h) (Or.inl ⟨by kernel_rfl, ?hy6⟩) (by assumption) ?rest6
    case hy6 => (intro w hSw; (try dsimp only at hSw); go_simp; try with_reducible rfl)
    case rest6 =>
    try simp only [Act.put, List.setIfInBounds_toArray, List.set_cons_zero, List.set_cons_succ]
    refine wpAnyH_take (i := 7) (v := undef) rfl (by kernel_rfl) (by kernel_rfl) (by kernel_rfl) (fun _ _ _ h => h) (Or.inr ⟨by kernel_rfl, rfl⟩) (by assumption) ?_
    try simp only [Act.put, List.setIfInBounds_toArray, List.set_cons_zero, List.set_cons_succ]
    refine wpAnyH_take (i := 8) (v := undef) rfl (by kernel_rfl) (by kernel_rfl) (by kernel_rfl) (fun _ _ _ h => h) (Or.inr ⟨by kernel_rfl, rfl⟩) (by assumption) ?_
    try simp only [Act.put, List.setIfInBounds_toArray, List.set_cons_zero, List.set_cons_succ]
    refine wpAnyH_take (i := 9) (v := undef) rfl (by kernel_rfl) (by kernel_rfl) (by kernel_rfl) (fun _ _ _ h => h) (Or.inr ⟨by kernel_rfl, rfl⟩) (by assumption) ?_
    try simp only [Act.put, List.setIfInBounds_toArray, List.set_cons_zero, List.set_cons_succ]
    refine wpAnyH_take (i := 10) (v := undef) rfl (by kernel_rfl) (by kernel_rfl) (by kernel_rfl) (fun _ _ _ h => h) (Or.inr ⟨by kernel_rfl, rfl⟩) (by assumption) ?_
    try simp only [Act.put, List.setIfInBounds_toArray, List.set_cons_zero, List.set_cons_succ]
    refine wpAnyH_take (i := 11) (v := undef) rfl (by kernel_rfl) (by kernel_rfl) (by kernel_rfl) (fun _ _ _ h => h) (Or.inr ⟨by kernel_rfl, rfl⟩) (by assumption) ?_
    try simp only [Act.put, List.setIfInBounds_toArray, List.set_cons_zero, List.set_cons_succ]
    refine wpAnyH_take (i := 12) (v := undef) rfl (by kernel_rfl) (by kernel_rfl) (by kernel_rfl) (fun _ _ _ h => h) (Or.inr ⟨by kernel_rfl, rfl⟩) (by assumption) ?_
    try simp only [Act.put, List.setIfInBounds_toArray, List.set_cons_zero, List.set_cons_succ]
    refine wpAnyH_take (i := 13) (v := ?v13) rfl (by kernel_rfl) (by kernel_rfl) (by kernel_rfl) (fun _ _ _ h => h) (Or.inl ⟨by kernel_rfl, ?hy13⟩) (by assumption) ?rest13
    case hy13 => (intro w hSw; (try dsimp only at hSw); go_simp; try with_reducible rfl)
    case rest13 =>
    try simp only [Act.put, List.setIfInBounds_toArray, List.set_cons_zero, List.set_cons_succ]
    refine wpAnyH_take (i := 14) (v := ?v14) rfl (by kernel_rfl) (by kernel_rfl) (by kernel_rfl) (fun _ _ _ h => h) (Or.inl ⟨by kernel_rfl, ?hy14⟩) (by assumption) ?rest14
    case hy14 => (intro w hSw; (try dsimp only at hSw); go_simp; try with_reducible rfl)
    case rest14 =>
    try simp only [Act.put, List.setIfInBounds_toArray, List.set_cons_zero, List.set_cons_succ]
    refine wpAnyH_take (i := 15) (v := undef) rfl (by kernel_rfl) (by kernel_rfl) (by kernel_rfl) (fun _ _ _ h => h) (Or.inr ⟨by kernel_rfl, rfl⟩) (by assumption) ?_
    try simp only [Act.put, List.setIfInBounds_toArray, List.set_cons_zero, List.set_cons_succ]
    refine wpAnyH_take (i := 16) (v := undef) rfl (by kernel_rfl) (by kernel_rfl) (by kernel_rfl) (fun _ _ _ h => h) (Or.inr ⟨by kernel_rfl, rfl⟩) (by assumption) ?_
    try simp only [Act.put, List.setIfInBounds_toArray, List.set_cons_zero, List.set_cons_succ]
    refine wpAnyH_take (i := 17) (v := undef) rfl (by kernel_rfl) (by kernel_rfl) (by kernel_rfl) (fun _ _ _ h => h) (Or.inr ⟨by kernel_rfl, rfl⟩) (by assumption) ?_
    try simp only [Act.put, List.setIfInBounds_toArray, List.set_cons_zero, List.set_cons_succ]
    refine wpAnyH_take (i := 18) (v := undef) rfl (by kernel_rfl) (by kernel_rfl) (by kernel_rfl) (fun _ _ _ h => h) (Or.inr ⟨by kernel_rfl, rfl⟩) (by assumption) ?_
    try simp only [Act.put, List.setIfInBounds_toArray, List.set_cons_zero, List.set_cons_succ]
    refine wpAnyH_take (i := 19) (v := undef) rfl (by kernel_rfl) (by kernel_rfl) (by kernel_rfl) (fun _ _ _ h => h) (Or.inr ⟨by kernel_rfl, rfl⟩) (by assumption) ?_
    try simp only [Act.put, List.setIfInBounds_toArray, List.set_cons_zero, List.set_cons_succ]
    refine wpAnyH_take (i := 20) (v := undef) rfl (by kernel_rfl) (by kernel_rfl) (by kernel_rfl) (fun _ _ _ h => h) (Or.inr ⟨by kernel_rfl, rfl⟩) (by assumption) ?_
    try simp only [Act.put, List.setIfInBounds_toArray, List.set_cons_zero, List.set_cons_succ]
    refine wpAnyH_take (i := 21) (v := ?v21) rfl (by kernel_rfl) (by kernel_rfl) (by kernel_rfl) (fun _ _ _ h => h) (Or.inl ⟨by kernel_rfl, ?hy21⟩) (by assumption) ?rest21
    case hy21 => (intro w hSw; (try dsimp only at hSw); go_simp; try with_reducible rfl)
    case rest21 =>
    try simp only [Act.put, List.setIfInBounds_toArray, List.set_cons_zero, List.set_cons_succ]
    refine wpAnyH_ready (rs := [22]) (by kernel_rfl) (by simp) ?_
    refine AllReadyH.cons rfl (fun K hK => ?_) AllReadyH.nil
    go_simp
    
    refine hK.out _ _ (HK.out _ (by repeat (first | with_reducible assumption | exact Below.mono (B := W4.heap.size) (by with_reducible assumption) HSB.out | (refine below_cell ?_ _ _)))) (fun hHeld => ?_)
    clear hK K
    try simp only [Act.put, List.setIfInBounds_toArray, List.set_cons_zero, List.set_cons_succ]
    refine wpAnyH_ready (rs := [23]) (by kernel_rfl) (by simp) ?_
    refine AllReadyH.cons rfl (fun K hK => ?_) AllReadyH.nil
    go_simp
    
    refine hK.out _ _ (by assumption) (fun hHeld => ?_)
    clear hK K
    try simp only [Act.put, List.setIfInBounds_toArray, List.set_cons_zero, List.set_cons_succ]
    refine wpAnyH_done (by kernel_rfl) ?_ _
    refine NoPanic.normal ?_
    go_wp2_with fail
    refine bodyPost_ret (v := .tuple #[pairV r c (.slice a la ca) (.slice b lb cb) (.slice m1 n1 k1) (.slice m2 n2 k2) (.slice m3 n3 k3) (.slice m4 n4 k4) 0 0, .bool false]) (by simp [results, Try.results111, go_sem, pairV, r0, r1, r2, r3, r4, r5, r6, r7, r8, r9]) rfl ⟨rfl, ?_⟩
    repeat (first | with_reducible assumption | exact below_to HB0.out (by with_reducible assumption) | (refine Below.setCell ?_ (by simp <;> omega) _))
  | true =>
    cases v1 with
    | false =>
      rw [Bool.true_and, Bool.false_and]
      go_enter Try.func111, Try.ntmps111
      go_wp2_with fail
      rw [HW4.out]
      refine wp_region_noPanic ?_
      refine wp_region_held_drew (S := fun w' => Below (w.heap.size + 1 + 1 + 1) W4 w' ∧ w'.cell? ⟨w.heap.size, 0, none⟩ = some (.int .i64 r) ∧ w'.cell? ⟨w.heap.size, 1, none⟩ = some (.int .i64 c) ∧ w'.cell? ⟨w.heap.size, 2, none⟩ = some (.slice a la ca) ∧ w'.cell? ⟨w.heap.size, 3, none⟩ = some (.slice b lb cb) ∧ w'.cell? ⟨w.heap.size + 1, 0, none⟩ = some (.slice m1 n1 k1) ∧ w'.cell? ⟨w.heap.size + 1, 1, none⟩ = some (.slice m2 n2 k2) ∧ w'.cell? ⟨w.heap.size + 1 + 1, 0, none⟩ = some (.slice m3 n3 k3) ∧ w'.cell? ⟨w.heap.size + 1 + 1, 1, none⟩ = some (.slice m4 n4 k4)) (by kernel_rfl) (HK.out _ (Below.refl _ _).drew) (fun hHeld => ?_)
      refine wpAnyH_take (i := 0) (v := ?vt0) rfl (by kernel_rfl) (by kernel_rfl) (by kernel_rfl) (fun _ _ _ h => h) (Or.inl ⟨by kernel_rfl, ?hyt0⟩) (by assumption) ?restt0
      case hyt0 => (intro w hSw; (try dsimp only at hSw); go_simp; try with_reducible rfl)
      case restt0 =>
      try simp only [Act.put, List.setIfInBounds_toArray, List.set_cons_zero, List.set_cons_succ]
      refine wpAnyH_take (i := 1) (v := ?vt1) rfl (by kernel_rfl) (by kernel_rfl) (by kernel_rfl) (fun _ _ _ h => h) (Or.inl ⟨by kernel_rfl, ?hyt1⟩) (by assumption) ?restt1
      case hyt1 => (intro w hSw; (try dsimp only at hSw); go_simp; try with_reducible rfl)
      case restt1 =>
      try simp only [Act.put, List.setIfInBounds_toArray, List.set_cons_zero, List.set_cons_succ]
      refine wpAnyH_take (i := 2) (v := ?vt2) rfl (by kernel_rfl) (by kernel_rfl) (by kernel_rfl) (fun _ _ _ h => h) (Or.inl ⟨by kernel_rfl, ?hyt2⟩) (by assumption) ?restt2
      case hyt2 => (intro w hSw; (try dsimp only at hSw); go_simp; try with_reducible rfl)
      case restt2 =>
      try simp only [Act.put, List.setIfInBounds_toArray, List.set_cons_zero, List.set_cons_succ]
      refine wpAnyH_take (i := 3) (v := ?vt3) rfl (by kernel_rfl) (by kernel_rfl) (by kernel_rfl) (fun _ _ _ h => h) (Or.inl ⟨by kernel_rfl, ?hyt3⟩) (by assumption) ?restt3
      case hyt3 => (intro w hSw; (try dsimp only at hSw); go_simp; try with_reducible rfl)
      case restt3 =>
      try simp only [Act.put, List.setIfInBounds_toArray, List.set_cons_zero, List.set_cons_succ]
      refine wpAnyH_take (i := 4) (v := ?vt4) rfl (by kernel_rfl) (by kernel_rfl) (by kernel_rfl) (fun _ _ _ h => h) (Or.inl ⟨by kernel_rfl, ?hyt4⟩) (by assumption) ?restt4
      case hyt4 => (intro w hSw; (try dsimp only at hSw); go_simp; try with_reducible rfl)
      case restt4 =>
      try simp only [Act.put, List.setIfInBounds_toArray, List.set_cons_zero, List.set_cons_succ]
      refine wpAnyH_ready (rs := [5]) (by kernel_rfl) (by simp) ?_
      refine AllReadyH.cons rfl (fun K hK => ?_) AllReadyH.nil
      go_simp
      go_at_call 39
      refine Calls.mono (H0.out _ ((Below.refl W4.heap.size W4).drew.mono HSB.out)) ?_
      rintro e w5 ⟨rfl, bq⟩
      have y1 := below_to (Below.refl W4.heap.size W4).drew bq
      have hr := HZ.out.below y1
      have r0 := (hr.2 0 _ rfl).1
      have q0 := (hr.2 0 _ rfl).2
      have r1 := (hr.2 1 _ rfl).1
      have q1 := (hr.2 1 _ rfl).2
      have r2 := (hr.2 2 _ rfl).1
      have q2 := (hr.2 2 _ rfl).2
      have r3 := (hr.2 3 _ rfl).1
      have q3 := (hr.2 3 _ rfl).2
      have r4 := (hr.2 4 _ rfl).1
      have q4 := (hr.2 4 _ rfl).2
      have r5 := (hr.2 5 _ rfl).1
      have q5 := (hr.2 5 _ rfl).2
      have r6 := (hr.2 6 _ rfl).1
      have q6 := (hr.2 6 _ rfl).2
      have r7 := (hr.2 7 _ rfl).1
      have q7 := (hr.2 7 _ rfl).2
      have r8 := (hr.2 8 _ rfl).1
      have q8 := (hr.2 8 _ rfl).2
      have r9 := (hr.2 9 _ rfl).1
      have q9 := (hr.2 9 _ rfl).2
      clear hr bq
      try (go_wp2_with fail)
      refine hK.out _ _ (HK.out _ (y1.mono HSB.out)) (fun hHeld => ?_)
      clear hK K
      try simp only [Act.put, List.setIfInBounds_toArray, List.set_cons_zero, List.set_cons_succ]
      refine wpAnyH_take (i := 6) (v := ?vt6) rfl (by kernel_rfl) (by kernel_rfl) (by kernel_rfl) (fun _ _ _ h => h) (Or.inl ⟨by kernel_rfl, ?hyt6⟩) (by assumption) ?restt6
      case hyt6 => (intro w hSw; (try dsimp only at hSw); go_simp; try with_reducible rfl)
      case restt6 =>
      try simp only [Act.put, List.setIfInBounds_toArray, List.set_cons_zero, List.set_cons_succ]
      refine wpAnyH_take (i := 7) (v := ?vt7) rfl (by kernel_rfl) (by kernel_rfl) (by kernel_rfl) (fun _ _ _ h => h) (Or.inl ⟨by kernel_rfl, ?hyt7⟩) (by assumption) ?restt7
      case hyt7 => (intro w hSw; (try dsimp only at hSw); go_simp; try with_reducible rfl)
      case restt7 =>
      try simp only [Act.put, List.setIfInBounds_toArray, List.set_cons_zero, List.set_cons_succ]
      refine wpAnyH_take (i := 8) (v := ?vt8) rfl (by kernel_rfl) (by kernel_rfl) (by kernel_rfl) (fun _ _ _ h => h) (Or.inl ⟨by kernel_rfl, ?hyt8⟩) (by assumption) ?restt8
      case hyt8 => (intro w hSw; (try dsimp only at hSw); go_simp; try with_reducible rfl)
      case restt8 =>
      try simp only [Act.put, List.setIfInBounds_toArray, List.set_cons_zero, List.set_cons_succ]
      refine wpAnyH_take (i := 9) (v := ?vt9) rfl (by kernel_rfl) (by kernel_rfl) (by kernel_rfl) (fun _ _ _ h => h) (Or.inl ⟨by kernel_rfl, ?hyt9⟩) (by assumption) ?restt9
      case hyt9 => (intro w hSw; (try dsimp only at hSw); go_simp; try with_reducible rfl)
      case restt9 =>
      try simp only [Act.put, List.setIfInBounds_toArray, List.set_cons_zero, List.set_cons_succ]
      refine wpAnyH_take (i := 10) (v := ?vt10) rfl (by kernel_rfl) (by kernel_rfl) (by kernel_rfl) (fun _ _ _ h => h) (Or.inl ⟨by kernel_rfl, ?hyt10⟩) (by assumption) ?restt10
      case hyt10 => (intro w hSw; (try dsimp only at hSw); go_simp; try with_reducible rfl)
      case restt10 =>
      try simp only [Act.put, List.setIfInBounds_toArray, List.set_cons_zero, List.set_cons_succ]
      refine wpAnyH_take (i := 11) (v := ?vt11) rfl (by kernel_rfl) (by kernel_rfl) (by kernel_rfl) (fun _ _ _ h => h) (Or.inl ⟨by kernel_rfl, ?hyt11⟩) (by assumption) ?restt11
      case hyt11 => (intro w hSw; (try dsimp only at hSw); go_simp; try with_reducible rfl)
      case restt11 =>
      try simp only [Act.put, List.setIfInBounds_toArray, List.set_cons_zero, List.set_cons_succ]
      refine wpAnyH_ready (rs := [12]) (by kernel_rfl) (by simp) ?_
      refine AllReadyH.cons rfl (fun K hK => ?_) AllReadyH.nil
      go_simp
      go_at_call 31
      refine Calls.mono (H1.out _ (y1.mono HSB.out)) ?_
      rintro e w6 ⟨rfl, bq⟩
      have y2 := below_to y1 bq
      have hr := HZ.out.below y2
      have r0 := (hr.2 0 _ rfl).1
      have q0 := (hr.2 0 _ rfl).2
      have r1 := (hr.2 1 _ rfl).1
      have q1 := (hr.2 1 _ rfl).2
      have r2 := (hr.2 2 _ rfl).1
      have q2 := (hr.2 2 _ rfl).2
      have r3 := (hr.2 3 _ rfl).1
      have q3 := (hr.2 3 _ rfl).2
      have r4 := (hr.2 4 _ rfl).1
      have q4 := (hr.2 4 _ rfl).2
      have r5 := (hr.2 5 _ rfl).1
      have q5 := (hr.2 5 _ rfl).2
      have r6 := (hr.2 6 _ rfl).1
      have q6 := (hr.2 6 _ rfl).2
      have r7 := (hr.2 7 _ rfl).1
      have q7 := (hr.2 7 _ rfl).2
      have r8 := (hr.2 8 _ rfl).1
      have q8 := (hr.2 8 _ rfl).2
      have r9 := (hr.2 9 _ rfl).1
      have q9 := (hr.2 9 _ rfl).2
      clear hr bq
      try (go_wp2_with fail)
      refine hK.out _ _ (HK.out _ (y2.mono HSB.out)) (fun hHeld => ?_)
      clear hK K
      try simp only [Act.put, List.setIfInBounds_toArray, List.set_cons_zero, List.set_cons_succ]
      refine wpAnyH_take (i := 13) (v := ?vt13) rfl (by kernel_rfl) (by kernel_rfl) (by kernel_rfl) (fun _ _ _ h => h) (Or.inl ⟨by kernel_rfl, ?hyt13⟩) (by assumption) ?restt13
      case hyt13 => (intro w hSw; (try dsimp only at hSw); go_simp; try with_reducible rfl)
      case restt13 =>
      try simp only [Act.put, List.setIfInBounds_toArray, List.set_cons_zero, List.set_cons_succ]
      refine wpAnyH_take (i := 14) (v := ?vt14) rfl (by kernel_rfl) (by kernel_rfl) (by kernel_rfl) (fun _ _ _ h => h) (Or.inl ⟨by kernel_rfl, ?hyt14⟩) (by assumption) ?restt14
      case hyt14 => (intro w hSw; (try dsimp only at hSw); go_simp; try with_reducible rfl)
      case restt14 =>
      try simp only [Act.put, List.setIfInBounds_toArray, List.set_cons_zero, List.set_cons_succ]
      refine wpAnyH_take (i := 15) (v := undef) rfl (by kernel_rfl) (by kernel_rfl) (by kernel_rfl) (fun _ _ _ h => h) (Or.inr ⟨by kernel_rfl, rfl⟩) (by assumption) ?_
      try simp only [Act.put, List.setIfInBounds_toArray, List.set_cons_zero, List.set_cons_succ]
      refine wpAnyH_take (i := 16) (v := undef) rfl (by kernel_rfl) (by kernel_rfl) (by kernel_rfl) (fun _ _ _ h => h) (Or.inr ⟨by kernel_rfl, rfl⟩) (by assumption) ?_
      try simp only [Act.put, List.setIfInBounds_toArray, List.set_cons_zero, List.set_cons_succ]
      refine wpAnyH_take (i := 17) (v := undef) rfl (by kernel_rfl) (by kernel_rfl) (by kernel_rfl) (fun _ _ _ h => h) (Or.inr ⟨by kernel_rfl, rfl⟩) (by assumption) ?_
      try simp only [Act.put, List.setIfInBounds_toArray, List.set_cons_zero, List.set_cons_succ]
      refine wpAnyH_take (i := 18) (v := undef) rfl (by kernel_rfl) (by kernel_rfl) (by kernel_rfl) (fun _ _ _ h => h) (Or.inr ⟨by kernel_rfl, rfl⟩) (by assumption) ?_
      try simp only [Act.put, List.setIfInBounds_toArray, List.set_cons_zero, List.set_cons_succ]
      refine wpAnyH_take (i := 19) (v := undef) rfl (by kernel_rfl) (by kernel_rfl) (by kernel_rfl) (fun _ _ _ h => h) (Or.inr ⟨by kernel_rfl, rfl⟩) (by assumption) ?_
      try simp only [Act.put, List.setIfInBounds_toArray, List.set_cons_zero, List.set_cons_succ]
      refine wpAnyH_take (i := 20) (v := undef) rfl (by kernel_rfl) (by kernel_rfl) (by kernel_rfl) (fun _ _ _ h => h) (Or.inr ⟨by kernel_rfl, rfl⟩) (by assumption) ?_
      try simp only [Act.put, List.setIfInBounds_toArray, List.set_cons_zero, List.set_cons_succ]
      refine wpAnyH_take (i := 21) (v := ?vt21) rfl (by kernel_rfl) (by kernel_rfl) (by kernel_rfl) (fun _ _ _ h => h) (Or.inl ⟨by kernel_rfl, ?hyt21⟩) (by assumption) ?restt21
      case hyt21 => (intro w hSw; (try dsimp only at hSw); go_simp; try with_reducible rfl)
      case restt21 =>
      try simp only [Act.put, List.setIfInBounds_toArray, List.set_cons_zero, List.set_cons_succ]
      refine wpAnyH_ready (rs := [22]) (by kernel_rfl) (by simp) ?_
      refine AllReadyH.cons rfl (fun K hK => ?_) AllReadyH.nil
      go_simp
      
      refine hK.out _ _ (HK.out _ (by repeat (first | with_reducible assumption | exact Below.mono (B := W4.heap.size) (by with_reducible assumption) HSB.out | (refine below_cell ?_ _ _)))) (fun hHeld => ?_)
      clear hK K
      try simp only [Act.put, List.setIfInBounds_toArray, List.set_cons_zero, List.set_cons_succ]
      refine wpAnyH_ready (rs := [23]) (by kernel_rfl) (by simp) ?_
      refine AllReadyH.cons rfl (fun K hK => ?_) AllReadyH.nil
      go_simp
      
      refine hK.out _ _ (by assumption) (fun hHeld => ?_)
      clear hK K
      try simp only [Act.put, List.setIfInBounds_toArray, List.set_cons_zero, List.set_cons_succ]
      refine wpAnyH_done (by kernel_rfl) ?_ _
      refine NoPanic.normal ?_
      go_wp2_with fail
      refine bodyPost_ret (v := .tuple #[pairV r c (.slice a la ca) (.slice b lb cb) (.slice m1 n1 k1) (.slice m2 n2 k2) (.slice m3 n3 k3) (.slice m4 n4 k4) 0 0, .bool false]) (by simp [results, Try.results111, go_sem, pairV, r0, r1, r2, r3, r4, r5, r6, r7, r8, r9]) rfl ⟨rfl, ?_⟩
      repeat (first | with_reducible assumption | exact below_to HB0.out (by with_reducible assumption) | (refine Below.setCell ?_ (by simp <;> omega) _))
    | true =>
      rw [Bool.true_and, Bool.true_and]
      go_enter Try.func111, Try.ntmps111
      go_wp2_with fail
      rw [HW4.out]
      (first | (go_region_held3 (fun w' => Below (w.heap.size + 1 + 1 + 1) W4 w' ∧ w'.cell? ⟨w.heap.size, 0, none⟩ = some (.int .i64 r) ∧ w'.cell? ⟨w.heap.size, 1, none⟩ = some (.int .i64 c) ∧ w'.cell? ⟨w.heap.size, 2, none⟩ = some (.slice a la ca) ∧ w'.cell? ⟨w.heap.size, 3, none⟩ = some (.slice b lb cb) ∧ w'.cell? ⟨w.heap.size + 1, 0, none⟩ = some (.slice m1 n1 k1) ∧ w'.cell? ⟨w.heap.size + 1, 1, none⟩ = some (.slice m2 n2 k2) ∧ w'.cell? ⟨w.heap.size + 1 + 1, 0, none⟩ = some (.slice m3 n3 k3) ∧ w'.cell? ⟨w.heap.size + 1 + 1, 1, none⟩ = some (.slice m4 n4 k4)) ((go_split_ands; exact HK.out _ (by first | with_reducible assumption | with_reducible exact (Below.refl _ _).drew | exact Below.mono (B := W4.heap.size) (by with_reducible assumption) HSB.out | (repeat (first | with_reducible assumption | exact Below.mono (B := W4.heap.size) (by with_reducible assumption) HSB.out | (refine below_cell ?_ _ _))))))
        (first
          | (go_at_call 39; (with_reducible refine Calls.mono (H0.out _ ?_) ?_); (· (go_split_ands; with_reducible assumption)); rintro e w5 ⟨rfl, bq⟩; have y1 := below_to (Below.refl W4.heap.size W4).drew bq; have hr := HZ.out.below y1; have r0 := (hr.2 0 _ rfl).1; have q0 := (hr.2 0 _ rfl).2; have r1 := (hr.2 1 _ rfl).1; have q1 := (hr.2 1 _ rfl).2; have r2 := (hr.2 2 _ rfl).1; have q2 := (hr.2 2 _ rfl).2; have r3 := (hr.2 3 _ rfl).1; have q3 := (hr.2 3 _ rfl).2; have r4 := (hr.2 4 _ rfl).1; have q4 := (hr.2 4 _ rfl).2; have r5 := (hr.2 5 _ rfl).1; have q5 := (hr.2 5 _ rfl).2; have r6 := (hr.2 6 _ rfl).1; have q6 := (hr.2 6 _ rfl).2; have r7 := (hr.2 7 _ rfl).1; have q7 := (hr.2 7 _ rfl).2; have r8 := (hr.2 8 _ rfl).1; have q8 := (hr.2 8 _ rfl).2; have r9 := (hr.2 9 _ rfl).1; have q9 := (hr.2 9 _ rfl).2; clear hr bq)
          | (go_at_call 31; (with_reducible refine Calls.mono (H1.out _ ?_) ?_); (· (go_split_ands; with_reducible assumption)); rintro e w6 ⟨rfl, bq⟩; have y2 := below_to y1 bq; have hr := HZ.out.below y2; have r0 := (hr.2 0 _ rfl).1; have q0 := (hr.2 0 _ rfl).2; have r1 := (hr.2 1 _ rfl).1; have q1 := (hr.2 1 _ rfl).2; have r2 := (hr.2 2 _ rfl).1; have q2 := (hr.2 2 _ rfl).2; have r3 := (hr.2 3 _ rfl).1; have q3 := (hr.2 3 _ rfl).2; have r4 := (hr.2 4 _ rfl).1; have q4 := (hr.2 4 _ rfl).2; have r5 := (hr.2 5 _ rfl).1; have q5 := (hr.2 5 _ rfl).2; have r6 := (hr.2 6 _ rfl).1; have q6 := (hr.2 6 _ rfl).2; have r7 := (hr.2 7 _ rfl).1; have q7 := (hr.2 7 _ rfl).2; have r8 := (hr.2 8 _ rfl).1; have q8 := (hr.2 8 _ rfl).2; have r9 := (hr.2 9 _ rfl).1; have q9 := (hr.2 9 _ rfl).2; clear hr bq)
          | (go_at_call 31; (with_reducible refine Calls.mono (H2.out _ ?_) ?_); (· (go_split_ands; with_reducible assumption)); rintro e w7 ⟨rfl, bq⟩; have y3 := below_to y2 bq; have hr := HZ.out.below y3; have r0 := (hr.2 0 _ rfl).1; have q0 := (hr.2 0 _ rfl).2; have r1 := (hr.2 1 _ rfl).1; have q1 := (hr.2 1 _ rfl).2; have r2 := (hr.2 2 _ rfl).1; have q2 := (hr.2 2 _ rfl).2; have r3 := (hr.2 3 _ rfl).1; have q3 := (hr.2 3 _ rfl).2; have r4 := (hr.2 4 _ rfl).1; have q4 := (hr.2 4 _ rfl).2; have r5 := (hr.2 5 _ rfl).1; have q5 := (hr.2 5 _ rfl).2; have r6 := (hr.2 6 _ rfl).1; have q6 := (hr.2 6 _ rfl).2; have r7 := (hr.2 7 _ rfl).1; have q7 := (hr.2 7 _ rfl).2; have r8 := (hr.2 8 _ rfl).1; have q8 := (hr.2 8 _ rfl).2; have r9 := (hr.2 9 _ rfl).1; have q9 := (hr.2 9 _ rfl).2; clear hr bq))) | fail)
      go_wp2_with fail
      refine bodyPost_ret (v := .tuple #[pairV r c (.slice a la ca) (.slice b lb cb) (.slice m1 n1 k1) (.slice m2 n2 k2) (.slice m3 n3 k3) (.slice m4 n4 k4) 0 0, .bool v2]) (by simp [results, Try.results111, go_sem, pairV, r0, r1, r2, r3, r4, r5, r6, r7, r8, r9]) rfl ⟨rfl, ?_⟩
      repeat (first | with_reducible assumption | exact below_to HB0.out (by with_reducible assumption) | (refine Below.setCell ?_ (by simp <;> omega) _))
end TryWalk
end Go.Proofs.Ytlbmmecjiopbbaa
