/- Games: two machines: the sums of the gains over a round: the reference's side. No condition. -/
import Derived.Test.YtlbmmecjiopbbaaWr3
namespace Go.Proofs.Ytlbmmecjiopbbaa
open Go.RowKit Flo Sl Pg
set_option linter.unusedVariables false
set_option linter.unusedSimpArgs false
namespace TryWalk
/-- The sum of the gains of k rounds behind the first i0 ones. -/
def Pl.sum (P : Pl) (xs : List Int) (i0 : Nat) : Nat → Int
  | 0 => 0
  | k + 1 => P.sum xs i0 k + xs.getD (P.cell (P.st (i0 + k))) 0
theorem Pl.cells_at (P : Pl) {n i : Nat} (h : i < n) : (P.cells n).getD i 0 = ((P.cell (P.st i) : Nat) : Int) := by
  rw [Pl.cells, List.getD_eq_getElem?_getD, List.getElem?_map, List.getElem?_range h]; rfl
theorem Pl.cell_lt (P : Pl) (h : P.Ok) (n : Nat) : P.cell (P.st n) < P.rn * P.cn := by
  obtain ⟨h1, h2⟩ := h.st_lt n
  exact idx_lt (h.i_lt h1).2 (h.k_lt h2).2
theorem Pl.sum_bound (P : Pl) (xs : List Int) (i0 : Nat) (h : ∀ n, -1000 ≤ xs.getD (P.cell (P.st n)) 0 ∧ xs.getD (P.cell (P.st n)) 0 ≤ 1000) (k : Nat) : -1000 * (k : Int) ≤ P.sum xs i0 k ∧ P.sum xs i0 k ≤ 1000 * (k : Int) := by
  induction k with
  | zero => simp [Pl.sum]
  | succ k ih => have := h (i0 + k); rw [Pl.sum]; omega
theorem two_len {P : Pl} {xs ys : List Int} (h : twoB P.rn P.cn xs ys P.am P.an P.bm P.bn = true) : xs.length = P.rn * P.cn ∧ ys.length = P.rn * P.cn ∧ (∀ j, j < xs.length → -1000 ≤ xs.getD j 0 ∧ xs.getD j 0 ≤ 1000) ∧ (∀ j, j < ys.length → -1000 ≤ ys.getD j 0 ∧ ys.getD j 0 ≤ 1000) := by
  unfold twoB at h
  simp only [Bool.and_eq_true] at h
  obtain ⟨⟨h0, -⟩, -⟩ := h
  obtain ⟨rn, cn, hr, hc, -, -, -, -, h5, h7, h6, h8⟩ := validG_parts h0
  have e1 : P.rn = rn := by exact_mod_cast hr
  have e2 : P.cn = cn := by exact_mod_cast hc
  rw [e1, e2]
  exact ⟨h5, h7, fun j hj => h6 _ (getD_mem hj), fun j hj => h8 _ (getD_mem hj)⟩
set_option maxRecDepth 100000 in
set_option maxHeartbeats 8000000 in
theorem spMeanNo (r c : Int) (a : Option Addr) (la ca : Nat) (xs : List Int) (b : Option Addr) (lb cb : Nat) (ys : List Int) (m1 : Option Addr) (n1 k1 : Nat) (am : List Int) (m2 : Option Addr) (n2 k2 : Nat) (an : List Int) (m3 : Option Addr) (n3 k3 : Nat) (bm : List Int) (m4 : Option Addr) (n4 k4 : Nat) (bn : List Int) (w : World)
    (hA : SlV (Value.int .i64) w a la xs) (hB : SlV (Value.int .i64) w b lb ys) (h1 : SlV (Value.int .i64) w m1 n1 am) (h2 : SlV (Value.int .i64) w m2 n2 an) (h3 : SlV (Value.int .i64) w m3 n3 bm) (h4 : SlV (Value.int .i64) w m4 n4 bn)
    (hla : la ≤ 1048576) (hlb : lb ≤ 1048576) (l1 : n1 ≤ 1048576) (l2 : n2 ≤ 1048576) (l3 : n3 ≤ 1048576) (l4 : n4 ≤ 1048576) (hv : twoB r c xs ys am an bm bn = false) : Calls Try.prog 74 #[.agg #[.int .i64 r, .int .i64 c, .slice a la ca, .slice b lb cb], .agg #[.slice m1 n1 k1, .slice m2 n2 k2], .agg #[.slice m3 n3 k3, .slice m4 n4 k4]] w (RetX (.tuple #[.int .i64 0, .int .i64 0, .int .i64 0, .bool false]) w) := by
  obtain ⟨W3, hW3⟩ : ∃ W3, ((w.alloc (.cells #[.int .i64 r, .int .i64 c, .slice a la ca, .slice b lb cb] 44)).alloc (.cells #[.slice m1 n1 k1, .slice m2 n2 k2] 36)).alloc (.cells #[.slice m3 n3 k3, .slice m4 n4 k4] 36) = W3 := ⟨_, rfl⟩
  have x0 : Box W3 w.heap.size [.int .i64 r, .int .i64 c, .slice a la ca, .slice b lb cb] := by rw [← hW3]; exact ((Box.new w [.int .i64 r, .int .i64 c, .slice a la ca, .slice b lb cb] 44).al _).al _
  have x1 : Box W3 (w.heap.size + 1) [.slice m1 n1 k1, .slice m2 n2 k2] := by rw [← hW3]; have := (Box.new (w.alloc (.cells #[.int .i64 r, .int .i64 c, .slice a la ca, .slice b lb cb] 44)) [.slice m1 n1 k1, .slice m2 n2 k2] 36).al (.cells #[.slice m3 n3 k3, .slice m4 n4 k4] 36); simpa using this
  have x2 : Box W3 (w.heap.size + 1 + 1) [.slice m3 n3 k3, .slice m4 n4 k4] := by rw [← hW3]; have := Box.new ((w.alloc (.cells #[.int .i64 r, .int .i64 c, .slice a la ca, .slice b lb cb] 44)).alloc (.cells #[.slice m1 n1 k1, .slice m2 n2 k2] 36)) [.slice m3 n3 k3, .slice m4 n4 k4] 36; simpa using this
  have hb0 : Below w.heap.size w W3 := by rw [← hW3]; repeat (first | exact Below.refl _ _ | refine Below.alloc ?_ (by simp <;> omega) _)
  have HT := hid (l02Two r c a la ca xs b lb cb ys m1 n1 k1 am m2 n2 k2 an m3 n3 k3 bm m4 n4 k4 bn _ _ _ W3 x0 x1 x2 (hA.below hb0) (hB.below hb0) (h1.below hb0) (h2.below hb0) (h3.below hb0) (h4.below hb0) hla hlb l1 l2 l3 l4)
  have HW3 := hid hW3
  have HB0 := hid hb0
  rw [hv] at HT
  clear hW3 x0 x1 x2 hb0 hA hB h1 h2 h3 h4 hv
  go_enter Try.func74, Try.ntmps74
  go_wp2_with fail
  rw [HW3.out]
  refine HT.out.mono ?_
  rintro e w' ⟨rfl, n, rfl⟩
  go_wp2_with fail
  exact bodyPost_ret (v := .tuple #[.int .i64 0, .int .i64 0, .int .i64 0, .bool false]) (by simp [results, Try.results74, go_sem]) rfl ⟨rfl, below_drewN HB0.out n⟩
set_option maxRecDepth 100000 in
set_option maxHeartbeats 8000000 in
theorem spMeanYes (P : Pl) (hP : P.Ok) (i0 n0 : Nat) (hR : Pm.Rep P.st i0 n0) (h64 : n0 ≤ 64) (a : Option Addr) (la ca : Nat) (xs : List Int) (b : Option Addr) (lb cb : Nat) (ys : List Int) (m1 : Option Addr) (k1 : Nat) (m2 : Option Addr) (n2 k2 : Nat) (m3 : Option Addr) (k3 : Nat) (m4 : Option Addr) (n4 k4 : Nat) (w : World)
    (hA : SlV (Value.int .i64) w a la xs) (hB : SlV (Value.int .i64) w b lb ys) (h1 : SlV (Value.int .i64) w m1 P.na P.am) (h2 : SlV (Value.int .i64) w m2 n2 P.an) (h3 : SlV (Value.int .i64) w m3 P.nb P.bm) (h4 : SlV (Value.int .i64) w m4 n4 P.bn)
    (hla : la ≤ 1048576) (hlb : lb ≤ 1048576) (hv : twoB P.rn P.cn xs ys P.am P.an P.bm P.bn = true) : Calls Try.prog 74 #[.agg #[.int .i64 P.rn, .int .i64 P.cn, .slice a la ca, .slice b lb cb], .agg #[.slice m1 P.na k1, .slice m2 n2 k2], .agg #[.slice m3 P.nb k3, .slice m4 n4 k4]] w (RetX (.tuple #[.int .i64 (P.sum xs i0 (n0 - i0)), .int .i64 (P.sum ys i0 (n0 - i0)), .int .i64 ((n0 - i0 : Nat) : Int), .bool true]) w) := by
  have z2 : n2 = P.na * P.cn := by rw [← h2.1]; exact hP.lan
  have z4 : n4 = P.nb * P.rn := by rw [← h4.1]; exact hP.lbn
  have l2 : n2 ≤ 1048576 := by rw [z2]; have : P.na * P.cn ≤ 48 := Nat.mul_le_mul hP.a2 hP.c2; omega
  have l4 : n4 ≤ 1048576 := by rw [z4]; have : P.nb * P.rn ≤ 48 := Nat.mul_le_mul hP.b2 hP.r2; omega
  obtain ⟨W3, hW3⟩ : ∃ W3, ((w.alloc (.cells #[.int .i64 P.rn, .int .i64 P.cn, .slice a la ca, .slice b lb cb] 44)).alloc (.cells #[.slice m1 P.na k1, .slice m2 n2 k2] 36)).alloc (.cells #[.slice m3 P.nb k3, .slice m4 n4 k4] 36) = W3 := ⟨_, rfl⟩
  have x0 : Box W3 w.heap.size [.int .i64 P.rn, .int .i64 P.cn, .slice a la ca, .slice b lb cb] := by rw [← hW3]; exact ((Box.new w [.int .i64 P.rn, .int .i64 P.cn, .slice a la ca, .slice b lb cb] 44).al _).al _
  have x1 : Box W3 (w.heap.size + 1) [.slice m1 P.na k1, .slice m2 n2 k2] := by rw [← hW3]; have := (Box.new (w.alloc (.cells #[.int .i64 P.rn, .int .i64 P.cn, .slice a la ca, .slice b lb cb] 44)) [.slice m1 P.na k1, .slice m2 n2 k2] 36).al (.cells #[.slice m3 P.nb k3, .slice m4 n4 k4] 36); simpa using this
  have x2 : Box W3 (w.heap.size + 1 + 1) [.slice m3 P.nb k3, .slice m4 n4 k4] := by rw [← hW3]; have := Box.new ((w.alloc (.cells #[.int .i64 P.rn, .int .i64 P.cn, .slice a la ca, .slice b lb cb] 44)).alloc (.cells #[.slice m1 P.na k1, .slice m2 n2 k2] 36)) [.slice m3 P.nb k3, .slice m4 n4 k4] 36; simpa using this
  have hb0 : Below w.heap.size w W3 := by rw [← hW3]; repeat (first | exact Below.refl _ _ | refine Below.alloc ?_ (by simp <;> omega) _)
  have HT := hid (l02Two P.rn P.cn a la ca xs b lb cb ys m1 P.na k1 P.am m2 n2 k2 P.an m3 P.nb k3 P.bm m4 n4 k4 P.bn _ _ _ W3 x0 x1 x2 (hA.below hb0) (hB.below hb0) (h1.below hb0) (h2.below hb0) (h3.below hb0) (h4.below hb0) hla hlb (by have := hP.a2; omega) l2 (by have := hP.b2; omega) l4)
  have HRD := hid (fun (w' : World) (hb : Below W3.heap.size W3 w') => spRound P hP i0 n0 hR h64 (.slice a la ca) (.slice b lb cb) m1 k1 m2 k2 m3 k3 m4 k4 n2 n4 w.heap.size (w.heap.size + 1) (w.heap.size + 1 + 1) z2 z4 w' (Mem.below ⟨x0, x1, x2, h1.below hb0, h2.below hb0, h3.below hb0, h4.below hb0⟩ hb))
  obtain ⟨hLX, hLY, hVX, hVY⟩ := two_len hv
  obtain ⟨pa, oa, rfl, -, hca⟩ := hA.2 (by rw [← hA.1, hLX]; exact Nat.mul_pos hP.r1 hP.c1)
  obtain ⟨pb, ob, rfl, -, hcb⟩ := hB.2 (by rw [← hB.1, hLY]; exact Nat.mul_pos hP.r1 hP.c1)
  have HLA : Hid (la = P.rn * P.cn) := hid (by rw [← hA.1]; exact hLX)
  have HLB : Hid (lb = P.rn * P.cn) := hid (by rw [← hB.1]; exact hLY)
  have HGX : Hid (∀ j, j < la → -1000 ≤ xs.getD j 0 ∧ xs.getD j 0 ≤ 1000) := hid (fun j hj => hVX j (by rw [hA.1]; exact hj))
  have HGY : Hid (∀ j, j < lb → -1000 ≤ ys.getD j 0 ∧ ys.getD j 0 ≤ 1000) := hid (fun j hj => hVY j (by rw [hB.1]; exact hj))
  have HCA := hid (hA.below hb0)
  have HCB := hid (hB.below hb0)
  have HW3 := hid hW3
  have HB0 := hid hb0
  have HX0 := hid x0
  have HCL : Hid (∀ n, P.cell (P.st n) < P.rn * P.cn) := hid (fun n => P.cell_lt hP n)
  have HRR := hid hR
  rw [hv] at HT
  clear hW3 x0 x1 x2 hb0 hA hB h1 h2 h3 h4 hv z2 z4 hca hcb hLX hLY hVX hVY hR hP
  go_enter Try.func74, Try.ntmps74
  go_wp2_with fail
  rw [HW3.out]
  refine HT.out.mono ?_
  rintro e wq ⟨rfl, n, hwq⟩
  have HBQ : Hid (Below W3.heap.size W3 wq) := hid (by rw [hwq]; exact below_drewN (Below.refl _ _) n)
  clear hwq
  go_wp2_with fail
  refine (HRD.out _ HBQ.out).mono ?_
  rintro e w5 ⟨v, rfl, hown, hb5⟩
  obtain ⟨ax, cap, hvx, hcap, hob⟩ := OwB.of_row hown
  subst hvx
  have HB5 := hid (below_to HBQ.out hb5)
  have hi0 := HRR.out.lt
  obtain ⟨g, rfl, -, -, hgl, hcx⟩ := hob.2 (by omega)
  have HCX : Hid (∀ m, m < n0 → w5.cell? ⟨g, m, none⟩ = some (.int .i64 ((P.cell (P.st m) : Nat) : Int))) := hid (fun m hm => by rw [(hcx m hm).1, P.cells_at hm])
  clear hown hb5 hcx hob
  obtain ⟨z, hz⟩ : ∃ z, n0 - i0 = z := ⟨_, rfl⟩
  rw [hz]
  have HZN := hid hz
  have hz2 : (i0 : Int) + (z : Int) = (n0 : Int) := by omega
  have HZ := hid hz2
  clear hz hz2
  have hz64 : (z : Int) ≤ 64 := by have := HZ.out; omega
  have hi64 : (i0 : Int) ≤ 64 := by omega
  have hn64 : (n0 : Int) ≤ 64 := by omega
  go_wp2_with fail
  go_loopw [13, 14, 15] (fun x y i wr => ∃ k m : Nat, Hid (m = i0 + k) ∧ m ≤ n0 ∧ i = .int .i64 (m : Int) ∧ x = .int .i64 (P.sum xs i0 k) ∧ y = .int .i64 (P.sum ys i0 k) ∧ Below w5.heap.size w5 wr) (fun _ _ i _ => n0 - (intOf i).toNat)
  case atStart => exact ⟨0, i0, hid rfl, by omega, rfl, rfl, rfl, Below.refl _ _⟩
  case round =>
    obtain ⟨k, m, HM, hm, rfl, rfl, rfl, hbel⟩ := hrel
    have HBEL := hid hbel
    clear hbel
    by_cases hlt : m < n0
    · have hlt2 : (m : Int) < (i0 : Int) + (z : Int) := by rw [HZ.out]; omega
      have hc := HCL.out (i0 + k)
      have d1 : wr.cell? ⟨g, m, none⟩ = some (.int .i64 ((P.cell (P.st m) : Nat) : Int)) := by rw [HBEL.out.cell (p := ⟨g, m, none⟩) hgl]; exact HCX.out m hlt
      rw [HM.out] at d1
      have HSX : Hid (P.sum xs i0 (k + 1) = P.sum xs i0 k + xs.getD (P.cell (P.st (i0 + k))) 0) := hid rfl
      have HSY : Hid (P.sum ys i0 (k + 1) = P.sum ys i0 k + ys.getD (P.cell (P.st (i0 + k))) 0) := hid rfl
      have q1 := P.sum_bound xs i0 (fun n => HGX.out _ (by rw [HLA.out]; exact HCL.out n)) k
      have q2 := P.sum_bound ys i0 (fun n => HGY.out _ (by rw [HLB.out]; exact HCL.out n)) k
      have hk64 : (k : Int) ≤ 64 := by have := HM.out; omega
      obtain ⟨c, hcc⟩ : ∃ c, P.cell (P.st (i0 + k)) = c := ⟨_, rfl⟩
      rw [hcc] at d1 hc HSX HSY
      clear hcc
      have hca : (c : Int) < (la : Int) := by rw [HLA.out]; exact_mod_cast hc
      have hcb : (c : Int) < (lb : Int) := by rw [HLB.out]; exact_mod_cast hc
      have d1' : wr.cell? ⟨g, m, none⟩ = some (.int .i64 (c : Int)) := by rw [HM.out]; exact d1
      have v1 := HGX.out c (by omega)
      have v2 := HGY.out c (by omega)
      have HBW := hid (below_to HB5.out HBEL.out)
      have d2 : wr.cell? ⟨pa, oa + c, none⟩ = some (.int .i64 (xs.getD c 0)) := by
        obtain ⟨b', o', he, -, h'⟩ := (HCA.out.below HBW.out).2 (by omega)
        obtain ⟨rfl, rfl⟩ : pa = b' ∧ oa = o' := by injection he with he; injection he with h1 h2 h3; exact ⟨h1, h2⟩
        exact h' c (by omega)
      have d3 : wr.cell? ⟨pb, ob + c, none⟩ = some (.int .i64 (ys.getD c 0)) := by
        obtain ⟨b', o', he, -, h'⟩ := (HCB.out.below HBW.out).2 (by omega)
        obtain ⟨rfl, rfl⟩ : pb = b' ∧ ob = o' := by injection he with he; injection he with h1 h2 h3; exact ⟨h1, h2⟩
        exact h' c (by omega)
      have f2 := ((HX0.out.below HBW.out).2 2 _ rfl).1
      have f3 := ((HX0.out.below HBW.out).2 3 _ rfl).1
      obtain ⟨u1, hu1⟩ : ∃ u, xs.getD c 0 = u := ⟨_, rfl⟩
      obtain ⟨u2, hu2⟩ : ∃ u, ys.getD c 0 = u := ⟨_, rfl⟩
      obtain ⟨s1, hs1⟩ : ∃ u, P.sum xs i0 k = u := ⟨_, rfl⟩
      obtain ⟨s2, hs2⟩ : ∃ u, P.sum ys i0 k = u := ⟨_, rfl⟩
      rw [hu1] at d2 v1 HSX
      rw [hu2] at d3 v2 HSY
      rw [hs1] at q1 HSX ⊢
      rw [hs2] at q2 HSY ⊢
      clear d1 hu1 hu2 hs1 hs2 hc
      obtain ⟨t1, ht1⟩ : ∃ t, s1 + u1 = t := ⟨_, rfl⟩
      obtain ⟨t2, ht2⟩ : ∃ t, s2 + u2 = t := ⟨_, rfl⟩
      have w1 : IntKind.i64.wrap (s1 + u1) = s1 + u1 := IntWalk.i64_in _ (by omega)
      have w2 : IntKind.i64.wrap (s2 + u2) = s2 + u2 := IntWalk.i64_in _ (by omega)
      have i1 : (0 : Int) ≤ (c : Int) := by omega
      have i2 : (0 : Int) ≤ (m : Int) := by omega
      have i3 : (m : Int) < (n0 : Int) := by omega
      clear ht1 ht2 q1 q2 v1 v2
      go_wp2_with fail
      go_quiet (fail)
      go_wp2_with fail
      go_quiet (fail)
      go_wp2_with fail
      go_roundw
      case rel => exact ⟨k + 1, m + 1, hid (by have := HM.out; omega), by omega, by go_num, by rw [HSX.out], by rw [HSY.out], below_drewN HBEL.out _⟩
      case measure => simp [intOf]; omega
    · obtain rfl : m = n0 := by omega
      have hlt2 : decide ((m : Int) < (i0 : Int) + (z : Int)) = false := by rw [HZ.out]; simp
      have HKZ : Hid (k = z) := hid (by have := HM.out; have := HZ.out; omega)
      go_wp2_with fail
      refine bodyPost_ret (v := .tuple #[.int .i64 (P.sum xs i0 k), .int .i64 (P.sum ys i0 k), .int .i64 (z : Int), .bool true]) (by simp [results, Try.results74, go_sem]) rfl ⟨?_, ?_⟩
      · rw [HKZ.out, HZN.out]
      · exact below_to HB0.out (below_to HB5.out HBEL.out)
end TryWalk
end Go.Proofs.Ytlbmmecjiopbbaa
