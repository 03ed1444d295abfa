/- Games: two machines play: one round. No condition. -/
import Derived.Test.YtlbmmecjiopbbaaWi4
namespace Go.Proofs.Ytlbmmecjiopbbaa
open Go.RowKit Flo Sl Pg
set_option linter.unusedVariables false
namespace TryWalk
/-- Two machines over a game's sides. -/
structure Pl where
  am : List Int
  an : List Int
  bm : List Int
  bn : List Int
  rn : Nat
  cn : Nat
  na : Nat
  nb : Nat
def Pl.i (P : Pl) (s : Nat × Nat) : Nat := (P.am.getD s.1 0).toNat
def Pl.k (P : Pl) (s : Nat × Nat) : Nat := (P.bm.getD s.2 0).toNat
def Pl.nxt (P : Pl) (s : Nat × Nat) : Nat × Nat := ((P.an.getD (s.1 * P.cn + P.k s) 0).toNat, (P.bn.getD (s.2 * P.rn + P.i s) 0).toNat)
def Pl.cell (P : Pl) (s : Nat × Nat) : Nat := P.i s * P.cn + P.k s
def Pl.st (P : Pl) : Nat → Nat × Nat
  | 0 => (0, 0)
  | n + 1 => P.nxt (P.st n)
def Pl.cells (P : Pl) (n : Nat) : List Int := (List.range n).map (fun m => ((P.cell (P.st m) : Nat) : Int))
theorem Pl.cells_succ (P : Pl) (n : Nat) : P.cells (n + 1) = P.cells n ++ [((P.cell (P.st n) : Nat) : Int)] := by simp [Pl.cells, List.range_succ]
theorem Pl.cells_len (P : Pl) (n : Nat) : (P.cells n).length = n := by simp [Pl.cells]
structure Pl.Ok (P : Pl) : Prop where
  r1 : 1 ≤ P.rn
  r2 : P.rn ≤ 6
  c1 : 1 ≤ P.cn
  c2 : P.cn ≤ 6
  a1 : 1 ≤ P.na
  a2 : P.na ≤ 8
  b1 : 1 ≤ P.nb
  b2 : P.nb ≤ 8
  la : P.am.length = P.na
  lan : P.an.length = P.na * P.cn
  lb : P.bm.length = P.nb
  lbn : P.bn.length = P.nb * P.rn
  ma : ∀ n ∈ P.am, 0 ≤ n ∧ n ≤ (P.rn : Int) - 1
  man : ∀ n ∈ P.an, 0 ≤ n ∧ n ≤ (P.na : Int) - 1
  mb : ∀ n ∈ P.bm, 0 ≤ n ∧ n ≤ (P.cn : Int) - 1
  mbn : ∀ n ∈ P.bn, 0 ≤ n ∧ n ≤ (P.nb : Int) - 1
theorem getD_mem {xs : List Int} {i : Nat} (h : i < xs.length) : xs.getD i 0 ∈ xs := by
  rw [List.getD_eq_getElem?_getD, List.getElem?_eq_getElem h]; exact List.getElem_mem h
theorem Pl.Ok.i_lt {P : Pl} (h : P.Ok) {s : Nat × Nat} (hs : s.1 < P.na) : P.am.getD s.1 0 = ((P.i s : Nat) : Int) ∧ P.i s < P.rn := by
  have := h.ma _ (getD_mem (by rw [h.la]; exact hs))
  unfold Pl.i
  have := h.r1
  omega
theorem Pl.Ok.k_lt {P : Pl} (h : P.Ok) {s : Nat × Nat} (hs : s.2 < P.nb) : P.bm.getD s.2 0 = ((P.k s : Nat) : Int) ∧ P.k s < P.cn := by
  have := h.mb _ (getD_mem (by rw [h.lb]; exact hs))
  unfold Pl.k
  have := h.c1
  omega
theorem Pl.Ok.nxt_lt {P : Pl} (h : P.Ok) {s : Nat × Nat} (h1 : s.1 < P.na) (h2 : s.2 < P.nb) : (P.an.getD (s.1 * P.cn + P.k s) 0 = (((P.nxt s).1 : Nat) : Int) ∧ (P.nxt s).1 < P.na) ∧ (P.bn.getD (s.2 * P.rn + P.i s) 0 = (((P.nxt s).2 : Nat) : Int) ∧ (P.nxt s).2 < P.nb) := by
  have x1 := h.man _ (getD_mem (i := s.1 * P.cn + P.k s) (by rw [h.lan]; exact idx_lt h1 (h.k_lt h2).2))
  have x2 := h.mbn _ (getD_mem (i := s.2 * P.rn + P.i s) (by rw [h.lbn]; exact idx_lt h2 (h.i_lt h1).2))
  have := h.a1
  have := h.b1
  unfold Pl.nxt
  simp only
  omega
theorem Pl.Ok.st_lt {P : Pl} (h : P.Ok) (n : Nat) : (P.st n).1 < P.na ∧ (P.st n).2 < P.nb := by
  induction n with
  | zero => exact ⟨h.a1, h.b1⟩
  | succ n ih =>
    have := h.nxt_lt ih.1 ih.2
    exact ⟨this.1.2, this.2.2⟩
/-- What a round reads, and the numbers that it reckons. -/
structure Rnd (P : Pl) (w : World) (p1 o1 p2 o2 p3 o3 p4 o4 : Nat) (lan lbn x y i k z1 s1 x2 z2 s2 y2 z3 c : Nat) : Prop where
  g1 : w.cell? ⟨p1, o1 + x, none⟩ = some (.int .i64 (i : Int))
  g2 : w.cell? ⟨p3, o3 + y, none⟩ = some (.int .i64 (k : Int))
  g3 : w.cell? ⟨p2, o2 + s1, none⟩ = some (.int .i64 (x2 : Int))
  g4 : w.cell? ⟨p4, o4 + s2, none⟩ = some (.int .i64 (y2 : Int))
  e1 : (x : Int) * (P.cn : Int) = (z1 : Int)
  e2 : (z1 : Int) + (k : Int) = (s1 : Int)
  e3 : (y : Int) * (P.rn : Int) = (z2 : Int)
  e4 : (z2 : Int) + (i : Int) = (s2 : Int)
  e5 : (i : Int) * (P.cn : Int) = (z3 : Int)
  e6 : (z3 : Int) + (k : Int) = (c : Int)
  t1 : IntKind.i64.wrap (z1 : Int) = (z1 : Int)
  t2 : IntKind.i64.wrap (s1 : Int) = (s1 : Int)
  t3 : IntKind.i64.wrap (z2 : Int) = (z2 : Int)
  t4 : IntKind.i64.wrap (s2 : Int) = (s2 : Int)
  t5 : IntKind.i64.wrap (z3 : Int) = (z3 : Int)
  t6 : IntKind.i64.wrap (c : Int) = (c : Int)
  b1 : (0 : Int) ≤ (x : Int)
  b2 : (x : Int) < (P.na : Int)
  b3 : (0 : Int) ≤ (y : Int)
  b4 : (y : Int) < (P.nb : Int)
  b5 : (0 : Int) ≤ (s1 : Int)
  b6 : (s1 : Int) < (lan : Int)
  b7 : (0 : Int) ≤ (s2 : Int)
  b8 : (s2 : Int) < (lbn : Int)
  q1 : x2 = (P.nxt (x, y)).1
  q2 : y2 = (P.nxt (x, y)).2
  q3 : c = P.cell (x, y)
theorem rnd {P : Pl} (h : P.Ok) {w : World} {p1 o1 p2 o2 p3 o3 p4 o4 x y lan lbn : Nat} (hx : x < P.na) (hy : y < P.nb) (hlan : lan = P.na * P.cn) (hlbn : lbn = P.nb * P.rn)
    (c1 : ∀ j, j < P.na → w.cell? ⟨p1, o1 + j, none⟩ = some (.int .i64 (P.am.getD j 0))) (c2 : ∀ j, j < lan → w.cell? ⟨p2, o2 + j, none⟩ = some (.int .i64 (P.an.getD j 0)))
    (c3 : ∀ j, j < P.nb → w.cell? ⟨p3, o3 + j, none⟩ = some (.int .i64 (P.bm.getD j 0))) (c4 : ∀ j, j < lbn → w.cell? ⟨p4, o4 + j, none⟩ = some (.int .i64 (P.bn.getD j 0))) :
    ∃ i k z1 s1 x2 z2 s2 y2 z3 c, Rnd P w p1 o1 p2 o2 p3 o3 p4 o4 lan lbn x y i k z1 s1 x2 z2 s2 y2 z3 c := by
  obtain ⟨hi, hi2⟩ := h.i_lt (s := (x, y)) hx
  obtain ⟨hk, hk2⟩ := h.k_lt (s := (x, y)) hy
  obtain ⟨⟨n1, n2⟩, n3, n4⟩ := h.nxt_lt (s := (x, y)) hx hy
  have x1 := idx_lt hx hk2
  have x2 := idx_lt hy hi2
  have x3 := idx_lt hi2 hk2
  have y1 : P.na * P.cn ≤ 48 := Nat.mul_le_mul h.a2 h.c2
  have y2 : P.nb * P.rn ≤ 48 := Nat.mul_le_mul h.b2 h.r2
  have y3 : P.rn * P.cn ≤ 36 := Nat.mul_le_mul h.r2 h.c2
  refine ⟨P.i (x, y), P.k (x, y), x * P.cn, x * P.cn + P.k (x, y), (P.nxt (x, y)).1, y * P.rn, y * P.rn + P.i (x, y), (P.nxt (x, y)).2, P.i (x, y) * P.cn, P.cell (x, y), ?_⟩
  exact ⟨by rw [c1 x hx]; exact congrArg (fun v => some (Value.int .i64 v)) hi, by rw [c3 y hy]; exact congrArg (fun v => some (Value.int .i64 v)) hk, by rw [c2 _ (by rw [hlan]; exact x1)]; exact congrArg (fun v => some (Value.int .i64 v)) n1, by rw [c4 _ (by rw [hlbn]; exact x2)]; exact congrArg (fun v => some (Value.int .i64 v)) n3, by push_cast; rfl, by push_cast; rfl, by push_cast; rfl, by push_cast; rfl, by push_cast; rfl, by unfold Pl.cell; push_cast; rfl,
    IntWalk.i64_in _ (by omega), IntWalk.i64_in _ (by omega), IntWalk.i64_in _ (by omega), IntWalk.i64_in _ (by omega), IntWalk.i64_in _ (by omega), IntWalk.i64_in _ (by unfold Pl.cell; omega), by omega, by omega, by omega, by omega, by omega, by omega, by omega, by omega, rfl, rfl, rfl⟩
def tableVs (P : Pl) (gs : List Value) (m1 : Option Addr) (k1 : Nat) (m2 : Option Addr) (k2 : Nat) (m3 : Option Addr) (k3 : Nat) (m4 : Option Addr) (k4 : Nat) : List Value := [.slice m1 P.na k1, .slice m2 (P.na * P.cn) k2, .slice m3 P.nb k3, .slice m4 (P.nb * P.rn) k4]
set_option maxHeartbeats 8000000 in
set_option maxRecDepth 100000 in
theorem play (P : Pl) (hP : P.Ok) (x y : Nat) (hx : x < P.na) (hy : y < P.nb) (lan lbn : Nat) (hlan : lan = P.na * P.cn) (hlbn : lbn = P.nb * P.rn) (va vb : Value) (m1 : Option Addr) (k1 : Nat) (m2 : Option Addr) (k2 : Nat) (m3 : Option Addr) (k3 : Nat) (m4 : Option Addr) (k4 : Nat) (kp : Nat) (w : World)
    (hb : Box w kp [.int .i64 P.rn, .int .i64 P.cn, va, vb, .slice m1 P.na k1, .slice m2 lan k2, .slice m3 P.nb k3, .slice m4 lbn k4, .int .i64 x, .int .i64 y])
    (h1 : SlV (Value.int .i64) w m1 P.na P.am) (h2 : SlV (Value.int .i64) w m2 lan P.an) (h3 : SlV (Value.int .i64) w m3 P.nb P.bm) (h4 : SlV (Value.int .i64) w m4 lbn P.bn) :
    Calls Try.prog 112 #[.pointer (some ⟨kp, 0, none⟩)] w fun e w' => e = .returned (.int .i64 ((P.cell (x, y) : Nat) : Int)) ∧ Mid kp (kp + 1) w w' ∧ Box w' kp [.int .i64 P.rn, .int .i64 P.cn, va, vb, .slice m1 P.na k1, .slice m2 lan k2, .slice m3 P.nb k3, .slice m4 lbn k4, .int .i64 (P.nxt (x, y)).1, .int .i64 (P.nxt (x, y)).2] := by
  obtain ⟨p1, o1, rfl, -, c1⟩ := h1.2 (by omega)
  obtain ⟨p2, o2, rfl, -, c2⟩ := h2.2 (by have := idx_lt hx (hP.k_lt (s := (x, y)) hy).2; omega)
  obtain ⟨p3, o3, rfl, -, c3⟩ := h3.2 (by omega)
  obtain ⟨p4, o4, rfl, -, c4⟩ := h4.2 (by have := idx_lt hy (hP.i_lt (s := (x, y)) hx).2; omega)
  obtain ⟨i, k, z1, s1, x2, z2, s2, y2, z3, c, R⟩ := rnd hP hx hy hlan hlbn c1 c2 c3 c4
  obtain ⟨g1, g2, g3, g4, e1, e2, e3, e4, e5, e6, t1, t2, t3, t4, t5, t6, b1, b2, b3, b4, b5, b6, b7, b8, q1, q2, q3⟩ := R
  rw [← q1, ← q2, ← q3]
  have HBX := hid hb
  have f0 := (hb.2 0 _ rfl).1
  have f1 := (hb.2 1 _ rfl).1
  have f4 := (hb.2 4 _ rfl).1
  have f5 := (hb.2 5 _ rfl).1
  have f6 := (hb.2 6 _ rfl).1
  have f7 := (hb.2 7 _ rfl).1
  have f8 := (hb.2 8 _ rfl).1
  have f9 := (hb.2 9 _ rfl).1
  have z8 := (hb.2 8 _ rfl).2
  have z9 := (hb.2 9 _ rfl).2
  have hkp : kp < w.heap.size := hb.1
  clear hb h1 h2 h3 h4 c1 c2 c3 c4 q1 q2 q3 hlan hlbn
  go_enter Try.func112, Try.ntmps112
  go_wp2_with fail
  go_quiet (fail)
  go_wp2_with fail
  obtain ⟨wq, hwq⟩ : ∃ wq, w.drewN nq = wq := ⟨_, rfl⟩
  have f0 := (congrArg (fun v => World.cell? v _) hwq).symm.trans f0
  have f1 := (congrArg (fun v => World.cell? v _) hwq).symm.trans f1
  have f4 := (congrArg (fun v => World.cell? v _) hwq).symm.trans f4
  have f5 := (congrArg (fun v => World.cell? v _) hwq).symm.trans f5
  have f6 := (congrArg (fun v => World.cell? v _) hwq).symm.trans f6
  have f7 := (congrArg (fun v => World.cell? v _) hwq).symm.trans f7
  have f8 := (congrArg (fun v => World.cell? v _) hwq).symm.trans f8
  have f9 := (congrArg (fun v => World.cell? v _) hwq).symm.trans f9
  have g1 := (congrArg (fun v => World.cell? v _) hwq).symm.trans g1
  have g2 := (congrArg (fun v => World.cell? v _) hwq).symm.trans g2
  have g3 := (congrArg (fun v => World.cell? v _) hwq).symm.trans g3
  have g4 := (congrArg (fun v => World.cell? v _) hwq).symm.trans g4
  have z8 := (congrArg (fun v => World.frozen? v _) hwq).symm.trans z8
  have z9 := (congrArg (fun v => World.frozen? v _) hwq).symm.trans z9
  have HQ : Hid (wq = w.drewN nq) := hid hwq.symm
  rw [hwq]
  clear hwq
  go_region
  go_wp2_with fail
  go_ret
  have hb0 : Box wq kp [.int .i64 P.rn, .int .i64 P.cn, va, vb, .slice (some ⟨p1, o1, none⟩) P.na k1, .slice (some ⟨p2, o2, none⟩) lan k2, .slice (some ⟨p3, o3, none⟩) P.nb k3, .slice (some ⟨p4, o4, none⟩) lbn k4, .int .i64 x, .int .i64 y] := by rw [HQ.out]; exact HBX.out.dr nq
  have hm0 : Mid kp (kp + 1) w wq := by rw [HQ.out]; exact Mid.of_below (below_drewN (Below.refl _ _) nq)
  refine ⟨rfl, ?_, ?_⟩
  · first
      | exact ((hm0.trans (Mid.setCell ⟨kp, 8, none⟩ (.int .i64 (x2 : Int)) (Nat.le_refl _) (Nat.lt_succ_self _))).trans (Mid.setCell ⟨kp, 9, none⟩ (.int .i64 (y2 : Int)) (Nat.le_refl _) (Nat.lt_succ_self _))).trans (Mid.of_below (Below.refl _ _).drew)
      | exact ((hm0.trans (Mid.of_below (Below.refl _ _).drew)).trans (Mid.setCell ⟨kp, 8, none⟩ (.int .i64 (x2 : Int)) (Nat.le_refl _) (Nat.lt_succ_self _))).trans (Mid.setCell ⟨kp, 9, none⟩ (.int .i64 (y2 : Int)) (Nat.le_refl _) (Nat.lt_succ_self _))
  · first
      | exact ((hb0.set 8 (.int .i64 (x2 : Int))).set 9 (.int .i64 (y2 : Int))).below (Below.refl _ _).drew
      | exact ((hb0.below (Below.refl _ _).drew).set 8 (.int .i64 (x2 : Int))).set 9 (.int .i64 (y2 : Int))
set_option maxHeartbeats 8000000 in
set_option maxRecDepth 100000 in
theorem spStep (P : Pl) (hP : P.Ok) (x y : Nat) (hx : x < P.na) (hy : y < P.nb) (lan lbn : Nat) (hlan : lan = P.na * P.cn) (hlbn : lbn = P.nb * P.rn) (va vb : Value) (m1 : Option Addr) (k1 : Nat) (m2 : Option Addr) (k2 : Nat) (m3 : Option Addr) (k3 : Nat) (m4 : Option Addr) (k4 : Nat) (kg ka kb : Nat) (w : World)
    (hg : Box w kg [.int .i64 P.rn, .int .i64 P.cn, va, vb]) (ha : Box w ka [.slice m1 P.na k1, .slice m2 lan k2]) (hb : Box w kb [.slice m3 P.nb k3, .slice m4 lbn k4])
    (h1 : SlV (Value.int .i64) w m1 P.na P.am) (h2 : SlV (Value.int .i64) w m2 lan P.an) (h3 : SlV (Value.int .i64) w m3 P.nb P.bm) (h4 : SlV (Value.int .i64) w m4 lbn P.bn) :
    Calls Try.prog 118 #[.pointer (some ⟨kg, 0, none⟩), .pointer (some ⟨ka, 0, none⟩), .pointer (some ⟨kb, 0, none⟩), .int .i64 x, .int .i64 y] w fun e w' => e = .returned (.tuple #[.int .i64 ((P.cell (x, y) : Nat) : Int), .int .i64 (P.nxt (x, y)).1, .int .i64 (P.nxt (x, y)).2]) ∧ ∃ n, w' = w.drewN n := by
  obtain ⟨p1, o1, rfl, -, c1⟩ := h1.2 (by omega)
  obtain ⟨p2, o2, rfl, -, c2⟩ := h2.2 (by have := idx_lt hx (hP.k_lt (s := (x, y)) hy).2; omega)
  obtain ⟨p3, o3, rfl, -, c3⟩ := h3.2 (by omega)
  obtain ⟨p4, o4, rfl, -, c4⟩ := h4.2 (by have := idx_lt hy (hP.i_lt (s := (x, y)) hx).2; omega)
  obtain ⟨i, k, z1, s1, x2, z2, s2, y2, z3, c, R⟩ := rnd hP hx hy hlan hlbn c1 c2 c3 c4
  obtain ⟨g1, g2, g3, g4, e1, e2, e3, e4, e5, e6, t1, t2, t3, t4, t5, t6, b1, b2, b3, b4, b5, b6, b7, b8, q1, q2, q3⟩ := R
  rw [← q1, ← q2, ← q3]
  have f0 := (hg.2 0 _ rfl).1
  have f1 := (hg.2 1 _ rfl).1
  have f4 := (ha.2 0 _ rfl).1
  have f5 := (ha.2 1 _ rfl).1
  have f6 := (hb.2 0 _ rfl).1
  have f7 := (hb.2 1 _ rfl).1
  clear hg ha hb h1 h2 h3 h4 c1 c2 c3 c4 q1 q2 q3 hlan hlbn
  go_enter Try.func118, Try.ntmps118
  go_wp2_with fail
  go_quiet (fail)
  go_wp2_with fail
  go_ret3
  exact ⟨rfl, _, rfl⟩
end TryWalk
end Go.Proofs.Ytlbmmecjiopbbaa
