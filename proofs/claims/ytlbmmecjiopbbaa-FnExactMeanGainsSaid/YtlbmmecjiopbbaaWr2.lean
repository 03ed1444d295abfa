/- Games: two machines: the round: both sides. No condition. -/
import Derived.Test.YtlbmmecjiopbbaaWr1
import Derived.Test.YtlbmmecjiopbbaaMp
import Derived.Maps.OwnOps
namespace Go.Proofs.Ytlbmmecjiopbbaa
open Go.RowKit Flo Sl Pg Go.Maps
set_option linter.unusedVariables false
set_option linter.unusedSimpArgs false
namespace TryWalk
def RetX (v : Value) (w : World) (e : Ending) (w' : World) : Prop := e = .returned v ∧ Below w.heap.size w w'
set_option maxRecDepth 100000 in
set_option maxHeartbeats 8000000 in
theorem spRoundNo (r c : Int) (a : Option Addr) (la ca : Nat) (xs : List Int) (b : Option Addr) (lb cb : Nat) (ys : List Int) (m1 : Option Addr) (n1 k1 : Nat) (am : List Int) (m2 : Option Addr) (n2 k2 : Nat) (an : List Int) (m3 : Option Addr) (n3 k3 : Nat) (bm : List Int) (m4 : Option Addr) (n4 k4 : Nat) (bn : List Int) (w : World)
    (hA : SlV (Value.int .i64) w a la xs) (hB : SlV (Value.int .i64) w b lb ys) (h1 : SlV (Value.int .i64) w m1 n1 am) (h2 : SlV (Value.int .i64) w m2 n2 an) (h3 : SlV (Value.int .i64) w m3 n3 bm) (h4 : SlV (Value.int .i64) w m4 n4 bn)
    (hla : la ≤ 1048576) (hlb : lb ≤ 1048576) (l1 : n1 ≤ 1048576) (l2 : n2 ≤ 1048576) (l3 : n3 ≤ 1048576) (l4 : n4 ≤ 1048576) (hv : twoB r c xs ys am an bm bn = false) : Calls Try.prog 67 #[.agg #[.int .i64 r, .int .i64 c, .slice a la ca, .slice b lb cb], .agg #[.slice m1 n1 k1, .slice m2 n2 k2], .agg #[.slice m3 n3 k3, .slice m4 n4 k4]] w (RetX (.tuple #[.int .i64 0, .int .i64 0, .bool false]) w) := by
  obtain ⟨W3, hW3⟩ : ∃ W3, ((w.alloc (.cells #[.int .i64 r, .int .i64 c, .slice a la ca, .slice b lb cb] 44)).alloc (.cells #[.slice m1 n1 k1, .slice m2 n2 k2] 36)).alloc (.cells #[.slice m3 n3 k3, .slice m4 n4 k4] 36) = W3 := ⟨_, rfl⟩
  have x0 : Box W3 w.heap.size [.int .i64 r, .int .i64 c, .slice a la ca, .slice b lb cb] := by rw [← hW3]; exact ((Box.new w [.int .i64 r, .int .i64 c, .slice a la ca, .slice b lb cb] 44).al _).al _
  have x1 : Box W3 (w.heap.size + 1) [.slice m1 n1 k1, .slice m2 n2 k2] := by rw [← hW3]; have := (Box.new (w.alloc (.cells #[.int .i64 r, .int .i64 c, .slice a la ca, .slice b lb cb] 44)) [.slice m1 n1 k1, .slice m2 n2 k2] 36).al (.cells #[.slice m3 n3 k3, .slice m4 n4 k4] 36); simpa using this
  have x2 : Box W3 (w.heap.size + 1 + 1) [.slice m3 n3 k3, .slice m4 n4 k4] := by rw [← hW3]; have := Box.new ((w.alloc (.cells #[.int .i64 r, .int .i64 c, .slice a la ca, .slice b lb cb] 44)).alloc (.cells #[.slice m1 n1 k1, .slice m2 n2 k2] 36)) [.slice m3 n3 k3, .slice m4 n4 k4] 36; simpa using this
  have hb0 : Below w.heap.size w W3 := by rw [← hW3]; repeat (first | exact Below.refl _ _ | refine Below.alloc ?_ (by simp <;> omega) _)
  have HT := hid (l02Two r c a la ca xs b lb cb ys m1 n1 k1 am m2 n2 k2 an m3 n3 k3 bm m4 n4 k4 bn _ _ _ W3 x0 x1 x2 (hA.below hb0) (hB.below hb0) (h1.below hb0) (h2.below hb0) (h3.below hb0) (h4.below hb0) hla hlb l1 l2 l3 l4)
  have HW3 := hid hW3
  have HB0 := hid hb0
  rw [hv] at HT
  clear hW3 x0 x1 x2 hb0 hA hB h1 h2 h3 h4 hv
  go_enter Try.func67, Try.ntmps67
  go_wp2_with fail
  rw [HW3.out]
  refine HT.out.mono ?_
  rintro e w' ⟨rfl, n, rfl⟩
  go_wp2_with fail
  go_ret3
  exact ⟨rfl, below_drewN HB0.out n⟩
set_option maxRecDepth 100000 in
set_option maxHeartbeats 8000000 in
theorem spRoundYes (P : Pl) (hP : P.Ok) (i0 n0 : Nat) (hR : Pm.Rep P.st i0 n0) (h64 : n0 ≤ 64) (a : Option Addr) (la ca : Nat) (xs : List Int) (b : Option Addr) (lb cb : Nat) (ys : List Int) (m1 : Option Addr) (k1 : Nat) (m2 : Option Addr) (n2 k2 : Nat) (m3 : Option Addr) (k3 : Nat) (m4 : Option Addr) (n4 k4 : Nat) (w : World)
    (hA : SlV (Value.int .i64) w a la xs) (hB : SlV (Value.int .i64) w b lb ys) (h1 : SlV (Value.int .i64) w m1 P.na P.am) (h2 : SlV (Value.int .i64) w m2 n2 P.an) (h3 : SlV (Value.int .i64) w m3 P.nb P.bm) (h4 : SlV (Value.int .i64) w m4 n4 P.bn)
    (hla : la ≤ 1048576) (hlb : lb ≤ 1048576) (hv : twoB P.rn P.cn xs ys P.am P.an P.bm P.bn = true) : Calls Try.prog 67 #[.agg #[.int .i64 P.rn, .int .i64 P.cn, .slice a la ca, .slice b lb cb], .agg #[.slice m1 P.na k1, .slice m2 n2 k2], .agg #[.slice m3 P.nb k3, .slice m4 n4 k4]] w (RetX (.tuple #[.int .i64 i0, .int .i64 ((n0 - i0 : Nat) : Int), .bool true]) w) := by
  have z2 : n2 = P.na * P.cn := by rw [← h2.1]; exact hP.lan
  have z4 : n4 = P.nb * P.rn := by rw [← h4.1]; exact hP.lbn
  have l2 : n2 ≤ 1048576 := by rw [z2]; have : P.na * P.cn ≤ 48 := Nat.mul_le_mul hP.a2 hP.c2; omega
  have l4 : n4 ≤ 1048576 := by rw [z4]; have : P.nb * P.rn ≤ 48 := Nat.mul_le_mul hP.b2 hP.r2; omega
  obtain ⟨W3, hW3⟩ : ∃ W3, ((w.alloc (.cells #[.int .i64 P.rn, .int .i64 P.cn, .slice a la ca, .slice b lb cb] 44)).alloc (.cells #[.slice m1 P.na k1, .slice m2 n2 k2] 36)).alloc (.cells #[.slice m3 P.nb k3, .slice m4 n4 k4] 36) = W3 := ⟨_, rfl⟩
  have x0 : Box W3 w.heap.size [.int .i64 P.rn, .int .i64 P.cn, .slice a la ca, .slice b lb cb] := by rw [← hW3]; exact ((Box.new w [.int .i64 P.rn, .int .i64 P.cn, .slice a la ca, .slice b lb cb] 44).al _).al _
  have x1 : Box W3 (w.heap.size + 1) [.slice m1 P.na k1, .slice m2 n2 k2] := by rw [← hW3]; have := (Box.new (w.alloc (.cells #[.int .i64 P.rn, .int .i64 P.cn, .slice a la ca, .slice b lb cb] 44)) [.slice m1 P.na k1, .slice m2 n2 k2] 36).al (.cells #[.slice m3 P.nb k3, .slice m4 n4 k4] 36); simpa using this
  have x2 : Box W3 (w.heap.size + 1 + 1) [.slice m3 P.nb k3, .slice m4 n4 k4] := by rw [← hW3]; have := Box.new ((w.alloc (.cells #[.int .i64 P.rn, .int .i64 P.cn, .slice a la ca, .slice b lb cb] 44)).alloc (.cells #[.slice m1 P.na k1, .slice m2 n2 k2] 36)) [.slice m3 P.nb k3, .slice m4 n4 k4] 36; simpa using this
  have hb0 : Below w.heap.size w W3 := by rw [← hW3]; repeat (first | exact Below.refl _ _ | refine Below.alloc ?_ (by simp <;> omega) _)
  have HT := hid (l02Two P.rn P.cn a la ca xs b lb cb ys m1 P.na k1 P.am m2 n2 k2 P.an m3 P.nb k3 P.bm m4 n4 k4 P.bn _ _ _ W3 x0 x1 x2 (hA.below hb0) (hB.below hb0) (h1.below hb0) (h2.below hb0) (h3.below hb0) (h4.below hb0) hla hlb (by have := hP.a2; omega) l2 (by have := hP.b2; omega) l4)
  have HRD := hid (fun (w' : World) (hb : Below W3.heap.size W3 w') => spRound P hP i0 n0 hR h64 (.slice a la ca) (.slice b lb cb) m1 k1 m2 k2 m3 k3 m4 k4 n2 n4 w.heap.size (w.heap.size + 1) (w.heap.size + 1 + 1) z2 z4 w' (Mem.below ⟨x0, x1, x2, h1.below hb0, h2.below hb0, h3.below hb0, h4.below hb0⟩ hb))
  have HW3 := hid hW3
  have HB0 := hid hb0
  rw [hv] at HT
  clear hW3 x0 x1 x2 hb0 hA hB h1 h2 h3 h4 hv z2 z4
  go_enter Try.func67, Try.ntmps67
  go_wp2_with fail
  rw [HW3.out]
  refine HT.out.mono ?_
  rintro e wq ⟨rfl, n, hwq⟩
  have HBQ : Hid (Below W3.heap.size W3 wq) := hid (by rw [hwq]; exact below_drewN (Below.refl _ _) n)
  clear hwq
  go_wp2_with (go_at_call 110; refine (HRD.out _ HBQ.out).mono ?_; rintro e w5 ⟨v, rfl, -, hb5⟩; have HB5 := hid (below_to (below_to HB0.out HBQ.out) hb5); clear hb5)
  go_ret3
  exact ⟨rfl, HB5.out⟩
theorem arrK : WideMaps.ArrKey Try.prog 117 2 2 := ⟨Try.underlying117, by kernel_rfl, by kernel_rfl, by kernel_rfl⟩
theorem lawK : Keyed Try.prog 117 := Keyed.of_law arrK.law
theorem sizeK : ∃ m, Try.prog.types.size = m + 1 := ⟨Try.prog.types.size - 1, by kernel_rfl⟩
theorem zeroI (w : World) : (zeroValue 2).run Try.prog w = .ok (.int .i64 0) w := by kernel_rfl
theorem mid_grown {k : Nat} {w w' : World} (m : Mid k (k + 1) w w') : w.grownBy w' (some k) :=
  ⟨m.os, m.tape, m.output, m.size, fun i hi hne => m.block i hi (by have : i ≠ k := fun e => hne (by rw [e]); omega)⟩
theorem grown_mid {k : Nat} {w w' : World} (m : w.grownBy w' (some k)) : Mid k (k + 1) w w' :=
  ⟨m.os, m.tape, m.output, m.size, fun i hi hne => m.block i hi (by intro e; injection e with e; omega)⟩
set_option maxRecDepth 100000 in
set_option maxHeartbeats 8000000 in
theorem imRoundNo (r c : Int) (a : Option Addr) (la ca : Nat) (xs : List Int) (b : Option Addr) (lb cb : Nat) (ys : List Int) (m1 : Option Addr) (n1 k1 : Nat) (am : List Int) (m2 : Option Addr) (n2 k2 : Nat) (an : List Int) (m3 : Option Addr) (n3 k3 : Nat) (bm : List Int) (m4 : Option Addr) (n4 k4 : Nat) (bn : List Int) (w : World)
    (hA : SlV (Value.int .i64) w a la xs) (hB : SlV (Value.int .i64) w b lb ys) (h1 : SlV (Value.int .i64) w m1 n1 am) (h2 : SlV (Value.int .i64) w m2 n2 an) (h3 : SlV (Value.int .i64) w m3 n3 bm) (h4 : SlV (Value.int .i64) w m4 n4 bn)
    (hla : la ≤ 1048576) (hlb : lb ≤ 1048576) (l1 : n1 ≤ 1048576) (l2 : n2 ≤ 1048576) (l3 : n3 ≤ 1048576) (l4 : n4 ≤ 1048576) (hv : twoB r c xs ys am an bm bn = false) : Calls Try.prog 68 #[.agg #[.int .i64 r, .int .i64 c, .slice a la ca, .slice b lb cb], .agg #[.slice m1 n1 k1, .slice m2 n2 k2], .agg #[.slice m3 n3 k3, .slice m4 n4 k4]] w (RetX (.tuple #[.int .i64 0, .int .i64 0, .bool false]) w) := by
  obtain ⟨W3, hW3⟩ : ∃ W3, ((w.alloc (.cells #[.int .i64 r, .int .i64 c, .slice a la ca, .slice b lb cb] 44)).alloc (.cells #[.slice m1 n1 k1, .slice m2 n2 k2] 36)).alloc (.cells #[.slice m3 n3 k3, .slice m4 n4 k4] 36) = W3 := ⟨_, rfl⟩
  have hb0 : Below w.heap.size w W3 := by rw [← hW3]; repeat (first | exact Below.refl _ _ | refine Below.alloc ?_ (by simp <;> omega) _)
  have HT := hid (paired r c a la ca xs b lb cb ys m1 n1 k1 am m2 n2 k2 an m3 n3 k3 bm m4 n4 k4 bn W3 (hA.below hb0) (hB.below hb0) (h1.below hb0) (h2.below hb0) (h3.below hb0) (h4.below hb0) hla hlb l1 l2 l3 l4)
  have HW3 := hid hW3
  have HB0 := hid hb0
  rw [hv] at HT
  clear hW3 hb0 hA hB h1 h2 h3 h4 hv
  go_enter Try.func68, Try.ntmps68
  go_wp2_with fail
  rw [HW3.out]
  refine HT.out.mono ?_
  rintro e w4 ⟨rfl, hb4⟩
  have HB4 := hid hb4
  clear hb4
  rw [pairV]
  go_wp2_with fail
  go_ret3
  exact ⟨rfl, (below_to HB0.out HB4.out).trans (Below.alloc (Below.refl _ _) (Nat.le_trans HB0.out.size HB4.out.size) _)⟩
set_option maxRecDepth 100000 in
set_option maxHeartbeats 8000000 in
theorem imRoundYes (P : Pl) (hP : P.Ok) (i0 n0 : Nat) (hR : Pm.Rep P.st i0 n0) (h64 : n0 ≤ 64) (a : Option Addr) (la ca : Nat) (xs : List Int) (b : Option Addr) (lb cb : Nat) (ys : List Int) (m1 : Option Addr) (k1 : Nat) (m2 : Option Addr) (n2 k2 : Nat) (m3 : Option Addr) (k3 : Nat) (m4 : Option Addr) (n4 k4 : Nat) (w : World)
    (hA : SlV (Value.int .i64) w a la xs) (hB : SlV (Value.int .i64) w b lb ys) (h1 : SlV (Value.int .i64) w m1 P.na P.am) (h2 : SlV (Value.int .i64) w m2 n2 P.an) (h3 : SlV (Value.int .i64) w m3 P.nb P.bm) (h4 : SlV (Value.int .i64) w m4 n4 P.bn)
    (hla : la ≤ 1048576) (hlb : lb ≤ 1048576) (hv : twoB P.rn P.cn xs ys P.am P.an P.bm P.bn = true) : Calls Try.prog 68 #[.agg #[.int .i64 P.rn, .int .i64 P.cn, .slice a la ca, .slice b lb cb], .agg #[.slice m1 P.na k1, .slice m2 n2 k2], .agg #[.slice m3 P.nb k3, .slice m4 n4 k4]] w (RetX (.tuple #[.int .i64 i0, .int .i64 ((n0 - i0 : Nat) : Int), .bool true]) w) := by
  have z2 : n2 = P.na * P.cn := by rw [← h2.1]; exact hP.lan
  have z4 : n4 = P.nb * P.rn := by rw [← h4.1]; exact hP.lbn
  have l2 : n2 ≤ 1048576 := by rw [z2]; have : P.na * P.cn ≤ 48 := Nat.mul_le_mul hP.a2 hP.c2; omega
  have l4 : n4 ≤ 1048576 := by rw [z4]; have : P.nb * P.rn ≤ 48 := Nat.mul_le_mul hP.b2 hP.r2; omega
  obtain ⟨W3, hW3⟩ : ∃ W3, ((w.alloc (.cells #[.int .i64 P.rn, .int .i64 P.cn, .slice a la ca, .slice b lb cb] 44)).alloc (.cells #[.slice m1 P.na k1, .slice m2 n2 k2] 36)).alloc (.cells #[.slice m3 P.nb k3, .slice m4 n4 k4] 36) = W3 := ⟨_, rfl⟩
  have hb0 : Below w.heap.size w W3 := by rw [← hW3]; repeat (first | exact Below.refl _ _ | refine Below.alloc ?_ (by simp <;> omega) _)
  have HT := hid (paired P.rn P.cn a la ca xs b lb cb ys m1 P.na k1 P.am m2 n2 k2 P.an m3 P.nb k3 P.bm m4 n4 k4 P.bn W3 (hA.below hb0) (hB.below hb0) (h1.below hb0) (h2.below hb0) (h3.below hb0) (h4.below hb0) hla hlb (by have := hP.a2; omega) l2 (by have := hP.b2; omega) l4)
  have HW3 := hid hW3
  have HB0 := hid hb0
  have HS1 := hid (h1.below hb0)
  have HS2 := hid (h2.below hb0)
  have HS3 := hid (h3.below hb0)
  have HS4 := hid (h4.below hb0)
  have HZ2 := hid z2
  have HZ4 := hid z4
  have HP := hid hP
  have HR := hid hR
  rw [hv] at HT
  clear hW3 hb0 hA hB h1 h2 h3 h4 hv z2 z4 hP hR
  have hmm := @run_makeMap Try.prog
  go_enter Try.func68, Try.ntmps68
  go_wp2_with fail
  rw [HW3.out]
  refine HT.out.mono ?_
  rintro e w4 ⟨rfl, hb4⟩
  rw [pairV]
  obtain ⟨W5, hW5⟩ : ∃ W5, w4.alloc (.cells #[.int .i64 P.rn, .int .i64 P.cn, .slice a la ca, .slice b lb cb, .slice m1 P.na k1, .slice m2 n2 k2, .slice m3 P.nb k3, .slice m4 n4 k4, .int .i64 0, .int .i64 0] 113) = W5 := ⟨_, rfl⟩
  have x5 : Box W5 w4.heap.size [.int .i64 P.rn, .int .i64 P.cn, .slice a la ca, .slice b lb cb, .slice m1 P.na k1, .slice m2 n2 k2, .slice m3 P.nb k3, .slice m4 n4 k4, .int .i64 (P.st 0).1, .int .i64 (P.st 0).2] := by
    rw [← hW5]
    exact Box.new w4 [.int .i64 P.rn, .int .i64 P.cn, .slice a la ca, .slice b lb cb, .slice m1 P.na k1, .slice m2 n2 k2, .slice m3 P.nb k3, .slice m4 n4 k4, .int .i64 0, .int .i64 0] 113
  have b5 : Below W3.heap.size W3 W5 := by rw [← hW5]; exact hb4.trans (Below.alloc (Below.refl _ _) hb4.size _)
  have s5 : W5.heap.size = w4.heap.size + 1 := by rw [← hW5]; simp
  have HS34 := hid hb4.size
  have HX5 := hid x5
  have HB5 := hid b5
  have HW5 := hid hW5
  have HSZ5 := hid s5
  clear x5 b5 hW5 s5 hb4
  have HM0 : Hid ((W5.alloc (.map #[] 0)).ownsMap Try.prog 117 (plainElem (H := Unit) Try.prog 2) (w4.heap.size + 1) 0 (Mp.seenD P.st 0)) := hid (by
    have := World.ownsMap_made W5 Try.prog 117 (plainElem (H := Unit) Try.prog 2)
    rw [HSZ5.out] at this; exact this)
  have HSW : Hid (w4.heap.size + 2 ≤ (W5.alloc (.map #[] 0)).heap.size) := hid (by simp [HSZ5.out])
  go_wp2_with fail
  rw [HW5.out]
  clear hmm
  go_loopw [12, 13, 14, 15] (fun t x1 x2 x3 wr => ∃ n : Nat, n ≤ n0 ∧ t = .int .i64 n ∧ wr.ownsMap Try.prog 117 (plainElem (H := Unit) Try.prog 2) (w4.heap.size + 1) n (Mp.seenD P.st n) ∧ Box wr w4.heap.size [.int .i64 P.rn, .int .i64 P.cn, .slice a la ca, .slice b lb cb, .slice m1 P.na k1, .slice m2 n2 k2, .slice m3 P.nb k3, .slice m4 n4 k4, .int .i64 (P.st n).1, .int .i64 (P.st n).2] ∧ Below W3.heap.size W3 wr) (fun t _ _ _ _ => n0 + 1 - (intOf t).toNat)
  case atStart => exact ⟨0, Nat.zero_le _, rfl, HM0.out, HX5.out.al _, HB5.out.trans (Below.alloc (Below.refl _ _) HB5.out.size _)⟩
  case round =>
    obtain ⟨n, hn, rfl, hmap, hbox, hbel⟩ := hrel
    have HMAP := hid hmap
    have HBOX := hid hbox
    have HBEL := hid hbel
    have fx := (hbox.2 8 _ rfl).1
    have fy := (hbox.2 9 _ rfl).1
    clear hmap hbox hbel
    obtain ⟨p8, r8⟩ := HP.out.st8 n
    obtain ⟨pna, pnb⟩ := HP.out.st_lt n
    have HKEY : Hid (keyOf Try.prog 117 (.agg #[.int .i64 ((P.st n).1 : Int), .int .i64 ((P.st n).2 : Int)]) = some (Mp.keyL (P.st n))) := hid (WideMaps.keyOf_pair arrK Try.underlying2 sizeK (Go.WalkArith.wf_i64 (by omega)) (Go.WalkArith.wf_i64 (by omega)))
    have HKI : Hid (∀ i, Mp.keyL (P.st i) = Mp.keyL (P.st n) → P.st i = P.st n) := hid (fun i h => Mp.keyL_inj arrK Try.underlying2 sizeK (HP.out.st8 i) (HP.out.st8 n) h)
    have HNX : Hid (Mp.seenD P.st (n + 1) = (Mp.seenD P.st n).put (Mp.keyL (P.st n)) (.lit (.int .i64 (n : Int)))) := hid rfl
    have HST := hid (play P HP.out (P.st n).1 (P.st n).2 pna pnb n2 n4 HZ2.out HZ4.out (.slice a la ca) (.slice b lb cb) m1 k1 m2 k2 m3 k3 m4 k4 w4.heap.size)
    have HN : Hid (P.st (n + 1) = P.nxt ((P.st n).1, (P.st n).2)) := hid rfl
    by_cases hend : n = n0
    · subst hend
      have HH : Hid (Maps.has (Mp.seenD P.st n) (Mp.keyL (P.st n)) = true ∧ (Mp.seenD P.st n).atKey (Mp.keyL (P.st n)) (.lit (.int .i64 0)) = .lit (.int .i64 (i0 : Int))) := hid (by
        rw [← HR.out.eq]
        refine Mp.seen_yes P.st n i0 HR.out.lt (fun j h1 h2 e => ?_) _
        have e2 := Mp.keyL_inj arrK Try.underlying2 sizeK (HP.out.st8 i0) (HP.out.st8 j) e
        exact HR.out.first i0 j h1 h2 e2)
      have hlt : i0 < n := HR.out.lt
      obtain ⟨z, hz⟩ : ∃ z, n - i0 = z := ⟨_, rfl⟩
      have hzi : (n : Int) - (i0 : Int) = (z : Int) := by omega
      have hzw : IntKind.i64.wrap (z : Int) = (z : Int) := IntWalk.i64_in _ (by omega)
      have HZZ := hid hz
      clear hz HST HN HNX HKI
      obtain ⟨x, hx⟩ : ∃ x, (P.st n).1 = x := ⟨_, rfl⟩
      obtain ⟨y, hy⟩ : ∃ y, (P.st n).2 = y := ⟨_, rfl⟩
      rw [hx] at fx HKEY
      rw [hy] at fy HKEY
      clear p8 r8 pna pnb hx hy
      obtain ⟨KL, hKL⟩ : ∃ k, Mp.keyL (P.st n) = k := ⟨_, rfl⟩
      rw [hKL] at HKEY HH
      clear hKL
      go_wp2_with (at_lookup; refine wpList_lookup_own_ok_int _ rfl _ _ 116 rfl 117 2 .i64 lawK Try.underlying116 Try.underlying2 (zeroI _) (w4.heap.size + 1) n _ rfl (HMAP.out.alloc _) _ KL rfl HKEY.out ?_; intro c hat hwc; rw [HH.out.2] at hat; obtain rfl : c = (i0 : Int) := (by simpa using hat.symm); rw [HH.out.1]; clear hat hwc)
      go_ret3
      refine ⟨?_, ?_⟩
      · rw [HZZ.out]; rfl
      · exact (below_to HB0.out HBEL.out).alloc (Nat.le_trans HB0.out.size HBEL.out.size) _
    · have hlt : n < n0 := by omega
      have HH : Hid (Maps.has (Mp.seenD P.st n) (Mp.keyL (P.st n)) = false) := hid (Mp.seen_no P.st n _ (fun j hj e => HR.out.first j n hj hlt (HKI.out j e.symm)))
      clear HKI
      obtain ⟨x, hx⟩ : ∃ x, (P.st n).1 = x := ⟨_, rfl⟩
      obtain ⟨y, hy⟩ : ∃ y, (P.st n).2 = y := ⟨_, rfl⟩
      have HBOX2 : Hid (Box wr w4.heap.size [.int .i64 P.rn, .int .i64 P.cn, .slice a la ca, .slice b lb cb, .slice m1 P.na k1, .slice m2 n2 k2, .slice m3 P.nb k3, .slice m4 n4 k4, .int .i64 x, .int .i64 y]) := hid (by rw [← hx, ← hy]; exact HBOX.out)
      rw [hx] at fx HKEY HST HN
      rw [hy] at fy HKEY HST HN
      clear p8 r8 pna pnb hx hy HBOX
      obtain ⟨KL, hKL⟩ : ∃ k, Mp.keyL (P.st n) = k := ⟨_, rfl⟩
      rw [hKL] at HKEY HH HNX
      clear hKL
      go_wp2_with (first
        | (at_lookup; refine wpList_lookup_own_ok_int _ rfl _ _ 116 rfl 117 2 .i64 lawK Try.underlying116 Try.underlying2 (zeroI _) (w4.heap.size + 1) n _ rfl (HMAP.out.alloc _) _ KL rfl HKEY.out ?_; intro c hat hwc; rw [HH.out]; clear hat hwc)
        | (at_mapUpdate; refine wpList_mapUpdate_own _ rfl _ _ _ 116 rfl 117 2 lawK Try.underlying116 _ (w4.heap.size + 1) n _ rfl (HMAP.out.alloc _) (by unfold maxLen; omega) _ _ KL rfl rfl HKEY.out _ [] (plainElem_int Try.underlying2 (Go.WalkArith.wf_i64 (by omega))) ?_; intro w6 hown6 hg6; have HMP6 := hid hown6; have HMI6 := hid (grown_mid hg6); clear hown6 hg6; have HBX6 := hid ((HBOX2.out.al (.cells #[.int .i64 x, .int .i64 y] 117)).mid HMI6.out (.inl (Nat.lt_succ_self _))); have HBL6 := hid ((HBEL.out.trans (Below.alloc (Below.refl _ _) HBEL.out.size (.cells #[.int .i64 x, .int .i64 y] 117))).trans (HMI6.out.below (by have := HS34.out; omega) (by have := HBEL.out.size; simp; omega))))
        | (go_at_call 112; refine (HST.out w6 HBX6.out (HS1.out.below HBL6.out) (HS2.out.below HBL6.out) (HS3.out.below HBL6.out) (HS4.out.below HBL6.out)).mono ?_; rintro e w7 ⟨rfl, hm7, hx7⟩; have HX7 := hid hx7; have HMP7 := hid (HMP6.out.kept (mid_grown hm7) (by simp)); have HBL7 := hid (HBL6.out.trans (hm7.below (by have := HS34.out; omega) HBL6.out.size)); clear hm7 hx7))
      go_roundw
      case rel => exact ⟨n + 1, hlt, by go_num, by rw [HNX.out]; exact HMP7.out, by rw [HN.out]; exact HX7.out, HBL7.out⟩
      case measure => simp [intOf]; omega
end TryWalk
end Go.Proofs.Ytlbmmecjiopbbaa
