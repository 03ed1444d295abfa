/- Games: the value of two rows: the reference's side. No condition. -/
import Derived.Test.YtlbmmecjiopbbaaWt4
import Derived.Test.YtlbmmecjiopbbaaTw
import Derived.Test.YtlbmmecjiopbbaaWi9
namespace Go.Proofs.Ytlbmmecjiopbbaa
open Go.RowKit Flo Sl Pg
set_option linter.unusedVariables false
set_option linter.unusedSimpArgs false
attribute [local go_sem ↓] Go.wp_at_zero Go.wp_at_succ
attribute [local go_sem] Dt.uponV_value Dt.uponV_skip Dt.uponV_enter
namespace TryWalk
theorem made2 (w : World) (x y : Int) : (w.alloc (.cells #[.int .i64 x, .int .i64 y] 2)).ownsRow w.heap.size 2 1 (.slice (some ⟨w.heap.size, 0, none⟩) 2 2) 2 ([x, y].map (Value.int .i64)) :=
  ⟨rfl, .inr ⟨w.heap.size, 2, _, rfl, Nat.le_refl _, (MapKept.heap_alloc w _).1, Nat.le_refl _, by unfold maxLen; omega, rfl, rfl⟩⟩
set_option maxRecDepth 100000 in
set_option maxHeartbeats 16000000 in
theorem spTwo (r c : Int) (a : Option Addr) (la ca : Nat) (xs : List Int) (b : Option Addr) (lb cb : Nat) (ys : List Int) (w : World) (h : SlV (Value.int .i64) w a la xs) (g : SlV (Value.int .i64) w b lb ys) (hla : la ≤ 1048576) (hlb : lb ≤ 1048576) : Calls Try.prog 69 #[.agg #[.int .i64 r, .int .i64 c, .slice a la ca, .slice b lb cb]] w (RetV5 (twoC r c xs ys) (twoR r c xs ys) (twoD r c xs ys) w) := by
  have bw : Below w.heap.size w (w.alloc (.cells #[.int .i64 r, .int .i64 c, .slice a la ca, .slice b lb cb] 44)) := Below.alloc (Below.refl _ _) (Nat.le_refl _) _
  have hbox : Box (w.alloc (.cells #[.int .i64 r, .int .i64 c, .slice a la ca, .slice b lb cb] 44)) w.heap.size [.int .i64 r, .int .i64 c, .slice a la ca, .slice b lb cb] := Box.new _ _ _
  have HIS := hid (l02Is r c a la ca xs b lb cb ys _ _ hbox (h.below bw) (g.below bw) hla hlb)
  cases hv : validG r c xs ys with
  | false =>
    have e1 : twoC r c xs ys = (0, 0) := by simp [twoC, hv]
    have e2 : twoR r c xs ys = (0, 0) := by simp [twoR, hv]
    have e3 : twoD r c xs ys = false := by simp [twoD, hv]
    rw [e1, e2, e3]
    rw [hv] at HIS
    go_enter Try.func69, Try.ntmps69
    go_wp2_with fail
    refine HIS.out.mono ?_
    rintro e w' ⟨rfl, n, rfl⟩
    go_wp2_with fail
    exact bodyPost_ret (v := .tuple #[.int .i64 0, .int .i64 0, .int .i64 0, .int .i64 0, .bool false]) (by simp [results, Try.results69, go_sem]) rfl ⟨rfl, below_drewN bw n⟩
  | true =>
    rw [hv] at HIS
    by_cases hr : r = 2
    · subst hr
      obtain ⟨rn, cn, hrn, rfl, -, -, hc1, hc2, h5, h7, h6, h8⟩ := validG_parts hv
      obtain rfl : rn = 2 := by omega
      have hT : Two xs cn la := ⟨hc1, hc2, by rw [← h.1]; exact h5, fun i hi => at_in h6 (by rw [h.1]; exact hi)⟩
      have e1 : twoC 2 cn xs ys = curI (worstV xs cn) (rowA xs cn) (rowB xs cn) cn := by simp [twoC, hv]
      have e2 : twoR 2 cn xs ys = red (worstV xs cn (twoC 2 cn xs ys)) (twoC 2 cn xs ys).2 := by simp [twoR, hv]
      have e3 : twoD 2 cn xs ys = true := by simp [twoD, hv]
      rw [e2, e1, e3]
      have HX := hid hbox
      have HH := hid (h.below bw)
      have HB := hid bw
      have HTT := hid hT
      obtain ⟨V, hV⟩ : ∃ V, worstV xs cn = V := ⟨_, rfl⟩
      obtain ⟨A, hA⟩ : ∃ A, rowA xs cn = A := ⟨_, rfl⟩
      obtain ⟨B, hB⟩ : ∃ B, rowB xs cn = B := ⟨_, rfl⟩
      have HVW : Hid (∀ x : Int × Int, Fit1 x → -8000000 ≤ V x ∧ V x ≤ 8000000) := hid (fun x hx => by rw [← hV]; exact hT.worst hx.1 hx.2.1 hx.2.2.2)
      have HF1 : Hid (∀ k, Fit1 (bestS V A B cn k)) := hid (fun k => by rw [← hA, ← hB]; exact bestS_fit hT V k)
      have HF2 : Hid (∀ x ∈ chS A B cn cn, Fit1 x) := hid (by rw [← hA, ← hB]; exact chS_fit' hT)
      have HAA : Hid (∀ j, A j = xs.getD j 0) := hid (fun j => by rw [← hA]; simp [rowA, at2])
      have HBB : Hid (∀ j, B j = xs.getD (cn + j) 0) := hid (fun j => by rw [← hB]; simp [rowB, at2])
      have HWO : Hid (∀ p q w', Fit1 (p, q) → Below (w.alloc (.cells #[.int .i64 2, .int .i64 cn, .slice a la ca, .slice b lb cb] 44)).heap.size (w.alloc (.cells #[.int .i64 2, .int .i64 cn, .slice a la ca, .slice b lb cb] 44)) w' → Calls Try.prog 114 #[.pointer (some ⟨w.heap.size, 0, none⟩), .int .i64 p, .int .i64 q] w' fun e w'' => e = .returned (.int .i64 (V (p, q))) ∧ ∃ n, w'' = w'.drewN n) := hid (fun p q w' hf hb => by
        rw [← hV]; exact worst cn a la ca xs b lb cb _ p q w' hT (hbox.below hb) ((h.below bw).below hb) hf.1 hf.2.1 hf.2.2.2)
      rw [hV, hA, hB]
      clear hV hA hB
      clear hv hrn h5 h6 h7 h8 e1 e2 e3 hbox h g bw hT hla hlb
      have HCE : Hid (∀ k, k + 1 = (chS A B cn cn).length → bestS V A B cn k = curI V A B cn) := hid (fun k hk => bestS_end V A B cn k hk)
      obtain ⟨CF, hCF⟩ : ∃ C, curI V A B cn = C := ⟨_, rfl⟩
      rw [hCF] at HCE ⊢
      clear hCF
      have hl2 := HTT.out.len
      have HL2 := hid hl2
      have hl12 : la ≤ 12 := by omega
      clear hl2
      go_enter Try.func69, Try.ntmps69
      go_wp2_with fail
      refine HIS.out.mono ?_
      rintro e wq ⟨rfl, n0, hwq⟩
      have HQ : Hid (Below (w.alloc (.cells #[.int .i64 2, .int .i64 cn, .slice a la ca, .slice b lb cb] 44)).heap.size (w.alloc (.cells #[.int .i64 2, .int .i64 cn, .slice a la ca, .slice b lb cb] 44)) wq) := hid (by rw [hwq]; exact below_drewN (Below.refl _ _) n0)
      have HX2 : Hid (Box wq w.heap.size [.int .i64 2, .int .i64 cn, .slice a la ca, .slice b lb cb]) := hid (HX.out.below HQ.out)
      have HB2 : Hid (Below w.heap.size w wq) := hid (below_to HB.out HQ.out)
      have HS2 : Hid (SlV (Value.int .i64) wq a la xs) := hid (HH.out.below HQ.out)
      clear hwq HX HH
      have f0 := (HX2.out.2 0 _ rfl).1
      go_wp2_with fail
      clear f0
      go_loopw [7, 8, 9, 10, 11, 12, 13] (fun v1 v2 i x1 x2 x3 x4 wr => ∃ (j n : Nat) (L : List (Int × Int)), j ≤ cn ∧ i = .int .i64 j ∧ Hid (L = chS A B cn j) ∧ Twin wr wq.heap.size v1 n (L.map Prod.fst) v2 n (L.map Prod.snd) ∧ Below wq.heap.size wq wr) (fun _ _ i _ _ _ _ _ => cn - (intOf i).toNat)
      case atStart =>
        refine ⟨0, 2, chS A B cn 0, Nat.zero_le _, rfl, hid rfl, ?_, ?_⟩
        · have := twin_made (made2 wq 0 1) #[.int .i64 1, .int .i64 1] 2 (by simp) (by unfold maxLen; omega) rfl 2 [1, 1] (Nat.le_refl _) rfl
          simpa [chS, spL] using this
        · exact ((Below.refl _ _).alloc (Nat.le_refl _) _).alloc (by simp) _
      case round =>
        obtain ⟨j, n, L, hj, rfl, HL, htw, hbel⟩ := hrel
        have HTW := hid htw
        have HBEL := hid hbel
        have hbx := HX2.out.below hbel
        have f1 := (hbx.2 1 _ rfl).1
        clear htw hbel hbx
        by_cases hlt : j < cn
        · go_wp2_with fail
          clear f1
          go_loopw [7, 8, 10, 11, 12, 13] (fun v1 v2 k x2 x3 x4 wr2 => ∃ (m n : Nat) (L : List (Int × Int)), j + 1 + m ≤ cn ∧ k = .int .i64 ((j + 1 + m : Nat) : Int) ∧ Hid (L = chS A B cn j ++ spIn A B j m) ∧ Twin wr2 wq.heap.size v1 n (L.map Prod.fst) v2 n (L.map Prod.snd) ∧ Below wq.heap.size wq wr2) (fun _ _ k _ _ _ _ => cn - (intOf k).toNat)
          case atStart => exact ⟨0, n, L, by omega, by go_num, hid (by rw [spIn, List.append_nil]; exact HL.out), HTW.out, HBEL.out⟩
          case round =>
            obtain ⟨m, n2, L2, hm, rfl, HL', htw, hbel⟩ := hrel
            rename World => w2
            clear HTW HBEL HL
            have HTW := hid htw
            have HBEL := hid hbel
            have hbx := HX2.out.below hbel
            have f1 := (hbx.2 1 _ rfl).1
            have f2 := (hbx.2 2 _ rfl).1
            obtain ⟨b1, o1, rfl, hb1, hc⟩ := (HS2.out.below hbel).2 (by have := HL2.out; omega)
            have HC := hid hc
            clear htw hbel hbx hc
            have HSP : Hid (L2 ++ cand (B (j + 1 + m) - B j) (A j - B j - A (j + 1 + m) + B (j + 1 + m)) = chS A B cn j ++ spIn A B j (m + 1)) := hid (by rw [spIn, HL'.out, List.append_assoc])
            have HEN : Hid (j + 1 + m = cn → L2 = chS A B cn (j + 1)) := hid (fun e => by rw [chS_succ, HL'.out, show cn - 1 - j = m by omega])
            have hn44 : L2.length ≤ 44 := by rw [HL'.out]; exact chS_len A B hc2 (by omega) (by omega)
            have hn2 : n2 = L2.length := by have := HTW.out.r1.1; simpa using this.symm
            have hn3 : n2 ≤ 44 := by omega
            clear hn44 hn2
            obtain ⟨q, hq⟩ : ∃ q, j + 1 + m = q := ⟨_, rfl⟩
            rw [hq] at hm HSP HEN ⊢
            have HQE := hid hq
            have hjq : j < q := by omega
            clear hq
            by_cases hql : q < cn
            · obtain ⟨s1, hs1⟩ : ∃ s, cn + j = s := ⟨_, rfl⟩
              obtain ⟨s2, hs2⟩ : ∃ s, cn + q = s := ⟨_, rfl⟩
              have hs1i : (cn : Int) + (j : Int) = (s1 : Int) := by omega
              have hs2i : (cn : Int) + (q : Int) = (s2 : Int) := by omega
              have hs1l : s1 < la := by have := HL2.out; omega
              have hs2l : s2 < la := by have := HL2.out; omega
              have hjl : j < la := by have := HL2.out; omega
              have hqla : q < la := by have := HL2.out; omega
              have hs1w : IntKind.i64.wrap (s1 : Int) = (s1 : Int) := IntWalk.i64_in _ (by omega)
              have hs2w : IntKind.i64.wrap (s2 : Int) = (s2 : Int) := IntWalk.i64_in _ (by omega)
              have c1 : w2.cell? ⟨b1, o1 + j, none⟩ = some (.int .i64 (xs.getD j 0)) := HC.out j hjl
              have c2 : w2.cell? ⟨b1, o1 + s1, none⟩ = some (.int .i64 (xs.getD s1 0)) := HC.out s1 hs1l
              have c3 : w2.cell? ⟨b1, o1 + q, none⟩ = some (.int .i64 (xs.getD q 0)) := HC.out q hqla
              have c4 : w2.cell? ⟨b1, o1 + s2, none⟩ = some (.int .i64 (xs.getD s2 0)) := HC.out s2 hs2l
              have q1 := HTT.out.bd j hjl
              have q2 := HTT.out.bd s1 hs1l
              have q3 := HTT.out.bd q hqla
              have q4 := HTT.out.bd s2 hs2l
              have HVS : Hid (A j = xs.getD j 0 ∧ B j = xs.getD s1 0 ∧ A q = xs.getD q 0 ∧ B q = xs.getD s2 0) := hid ⟨HAA.out j, by rw [HBB.out, hs1], HAA.out q, by rw [HBB.out, hs2]⟩
              generalize xs.getD j 0 = X1 at *
              generalize xs.getD s1 0 = X2 at *
              generalize xs.getD q 0 = X3 at *
              generalize xs.getD s2 0 = X4 at *
              obtain ⟨d1, hd1⟩ : ∃ d, X1 - X2 = d := ⟨_, rfl⟩
              obtain ⟨d2, hd2⟩ : ∃ d, d1 - X3 = d := ⟨_, rfl⟩
              obtain ⟨d3, hd3⟩ : ∃ d, d2 + X4 = d := ⟨_, rfl⟩
              obtain ⟨nn, hnn⟩ : ∃ d, X4 - X2 = d := ⟨_, rfl⟩
              have t1 : IntKind.i64.wrap d1 = d1 := IntWalk.i64_in _ (by omega)
              have t2 : IntKind.i64.wrap d2 = d2 := IntWalk.i64_in _ (by omega)
              have t3 : IntKind.i64.wrap d3 = d3 := IntWalk.i64_in _ (by omega)
              have t4 : IntKind.i64.wrap nn = nn := IntWalk.i64_in _ (by omega)
              have hdb : -4000 ≤ d3 ∧ d3 ≤ 4000 ∧ -4000 ≤ nn ∧ nn ≤ 4000 := by omega
              have HCA : Hid (cand (B q - B j) (A j - B j - A q + B q) = cand nn d3) := hid (by
                obtain ⟨v1, v2, v3, v4⟩ := HVS.out
                rw [v1, v2, v3, v4, hnn, hd1, hd2, hd3])
              have HSP2 : Hid (L2 ++ cand nn d3 = chS A B cn j ++ spIn A B j (m + 1)) := hid (by rw [← HCA.out]; exact HSP.out)
              obtain ⟨hdb1, hdb2, hdb3, hdb4⟩ := hdb
              have HKEEPa : Hid (∀ w', Below w2.heap.size w2 w' → Below w2.heap.size w2 w' ∧ w'.cell? ⟨w.heap.size, 1, none⟩ = some (.int .i64 cn) ∧ w'.cell? ⟨w.heap.size, 2, none⟩ = some (.slice (some ⟨b1, o1, none⟩) la ca) ∧ w'.cell? ⟨b1, o1 + j, none⟩ = some (.int .i64 X1) ∧ w'.cell? ⟨b1, o1 + s1, none⟩ = some (.int .i64 X2) ∧ w'.cell? ⟨b1, o1 + q, none⟩ = some (.int .i64 X3) ∧ w'.cell? ⟨b1, o1 + s2, none⟩ = some (.int .i64 X4)) := hid (fun w' hb => ⟨hb, cellB hb f1, cellB hb f2, cellB hb c1, cellB hb c2, cellB hb c3, cellB hb c4⟩)
              have j1 : (0 : Int) ≤ (j : Int) := by omega
              have j2 : (j : Int) < (la : Int) := by omega
              have j3 : (0 : Int) ≤ (s1 : Int) := by omega
              have j4 : (s1 : Int) < (la : Int) := by omega
              have j5 : (0 : Int) ≤ (q : Int) := by omega
              have j6 : (q : Int) < (la : Int) := by omega
              have j7 : (0 : Int) ≤ (s2 : Int) := by omega
              have j8 : (s2 : Int) < (la : Int) := by omega
              clear HSP HCA HVS q1 q2 q3 q4 hs1 hs2 c1 c2 c3 c4
              go_wp2_with fail
              clear f1 f2
              refine Dt.start (n := 30) (by kernel_rfl) (by kernel_rfl) ?_
              refine Dt.enter (S := fun w' => Below w2.heap.size w2 w' ∧ w'.cell? ⟨w.heap.size, 1, none⟩ = some (.int .i64 cn) ∧ w'.cell? ⟨w.heap.size, 2, none⟩ = some (.slice (some ⟨b1, o1, none⟩) la ca) ∧ w'.cell? ⟨b1, o1 + j, none⟩ = some (.int .i64 X1) ∧ w'.cell? ⟨b1, o1 + s1, none⟩ = some (.int .i64 X2) ∧ w'.cell? ⟨b1, o1 + q, none⟩ = some (.int .i64 X3) ∧ w'.cell? ⟨b1, o1 + s2, none⟩ = some (.int .i64 X4)) (T := []) (m := 0) (n := 30) (by kernel_rfl) (by kernel_rfl) (by kernel_rfl) (by kernel_rfl) ?aS ?aD
              case aS => (first | exact HKEEPa.out _ (Below.refl _ _).drew | (fail))
              case aD =>
              refine Dt.quiet (i := 0) (v := ?va0) rfl rfl (by kernel_rfl) (by kernel_rfl) (by kernel_rfl) ?ya0 ?ra0
              case ya0 => (intro w hSw; (try dsimp only at hSw); go_simp; try with_reducible rfl)
              case ra0 =>
              try simp only [Act.put, List.setIfInBounds_toArray, List.set_cons_zero, List.set_cons_succ]
              refine Dt.quiet (i := 1) (v := ?va1) rfl rfl (by kernel_rfl) (by kernel_rfl) (by kernel_rfl) ?ya1 ?ra1
              case ya1 => (intro w hSw; (try dsimp only at hSw); go_simp; try with_reducible rfl)
              case ra1 =>
              try simp only [Act.put, List.setIfInBounds_toArray, List.set_cons_zero, List.set_cons_succ]
              refine Dt.quiet (i := 2) (v := ?va2) rfl rfl (by kernel_rfl) (by kernel_rfl) (by kernel_rfl) ?ya2 ?ra2
              case ya2 => (intro w hSw; (try dsimp only at hSw); go_simp; try with_reducible rfl)
              case ra2 =>
              try simp only [Act.put, List.setIfInBounds_toArray, List.set_cons_zero, List.set_cons_succ]
              refine Dt.quiet (i := 3) (v := ?va3) rfl rfl (by kernel_rfl) (by kernel_rfl) (by kernel_rfl) ?ya3 ?ra3
              case ya3 => (intro w hSw; (try dsimp only at hSw); go_simp; try with_reducible rfl)
              case ra3 =>
              try simp only [Act.put, List.setIfInBounds_toArray, List.set_cons_zero, List.set_cons_succ]
              refine Dt.quiet (i := 4) (v := ?va4) rfl rfl (by kernel_rfl) (by kernel_rfl) (by kernel_rfl) ?ya4 ?ra4
              case ya4 => (intro w hSw; (try dsimp only at hSw); go_simp; try with_reducible rfl)
              case ra4 =>
              try simp only [Act.put, List.setIfInBounds_toArray, List.set_cons_zero, List.set_cons_succ]
              refine Dt.quiet (i := 5) (v := ?va5) rfl rfl (by kernel_rfl) (by kernel_rfl) (by kernel_rfl) ?ya5 ?ra5
              case ya5 => (intro w hSw; (try dsimp only at hSw); go_simp; try with_reducible rfl)
              case ra5 =>
              try simp only [Act.put, List.setIfInBounds_toArray, List.set_cons_zero, List.set_cons_succ]
              refine Dt.quiet (i := 6) (v := ?va6) rfl rfl (by kernel_rfl) (by kernel_rfl) (by kernel_rfl) ?ya6 ?ra6
              case ya6 => (intro w hSw; (try dsimp only at hSw); go_simp; try with_reducible rfl)
              case ra6 =>
              try simp only [Act.put, List.setIfInBounds_toArray, List.set_cons_zero, List.set_cons_succ]
              refine Dt.quiet (i := 7) (v := ?va7) rfl rfl (by kernel_rfl) (by kernel_rfl) (by kernel_rfl) ?ya7 ?ra7
              case ya7 => (intro w hSw; (try dsimp only at hSw); go_simp; try with_reducible rfl)
              case ra7 =>
              try simp only [Act.put, List.setIfInBounds_toArray, List.set_cons_zero, List.set_cons_succ]
              refine Dt.quiet (i := 8) (v := ?va8) rfl rfl (by kernel_rfl) (by kernel_rfl) (by kernel_rfl) ?ya8 ?ra8
              case ya8 => (intro w hSw; (try dsimp only at hSw); go_simp; try with_reducible rfl)
              case ra8 =>
              try simp only [Act.put, List.setIfInBounds_toArray, List.set_cons_zero, List.set_cons_succ]
              refine Dt.quiet (i := 9) (v := ?va9) rfl rfl (by kernel_rfl) (by kernel_rfl) (by kernel_rfl) ?ya9 ?ra9
              case ya9 => (intro w hSw; (try dsimp only at hSw); go_simp; try with_reducible rfl)
              case ra9 =>
              try simp only [Act.put, List.setIfInBounds_toArray, List.set_cons_zero, List.set_cons_succ]
              refine Dt.quiet (i := 10) (v := ?va10) rfl rfl (by kernel_rfl) (by kernel_rfl) (by kernel_rfl) ?ya10 ?ra10
              case ya10 => (intro w hSw; (try dsimp only at hSw); go_simp; try with_reducible rfl)
              case ra10 =>
              try simp only [Act.put, List.setIfInBounds_toArray, List.set_cons_zero, List.set_cons_succ]
              refine Dt.quiet (i := 11) (v := ?va11) rfl rfl (by kernel_rfl) (by kernel_rfl) (by kernel_rfl) ?ya11 ?ra11
              case ya11 => (intro w hSw; (try dsimp only at hSw); go_simp; try with_reducible rfl)
              case ra11 =>
              try simp only [Act.put, List.setIfInBounds_toArray, List.set_cons_zero, List.set_cons_succ]
              refine Dt.quiet (i := 12) (v := ?va12) rfl rfl (by kernel_rfl) (by kernel_rfl) (by kernel_rfl) ?ya12 ?ra12
              case ya12 => (intro w hSw; (try dsimp only at hSw); go_simp; try with_reducible rfl)
              case ra12 =>
              try simp only [Act.put, List.setIfInBounds_toArray, List.set_cons_zero, List.set_cons_succ]
              refine Dt.quiet (i := 13) (v := ?va13) rfl rfl (by kernel_rfl) (by kernel_rfl) (by kernel_rfl) ?ya13 ?ra13
              case ya13 => (intro w hSw; (try dsimp only at hSw); go_simp; try with_reducible rfl)
              case ra13 =>
              try simp only [Act.put, List.setIfInBounds_toArray, List.set_cons_zero, List.set_cons_succ]
              refine Dt.quiet (i := 14) (v := ?va14) rfl rfl (by kernel_rfl) (by kernel_rfl) (by kernel_rfl) ?ya14 ?ra14
              case ya14 => (intro w hSw; (try dsimp only at hSw); go_simp; try with_reducible rfl)
              case ra14 =>
              try simp only [Act.put, List.setIfInBounds_toArray, List.set_cons_zero, List.set_cons_succ]
              refine Dt.quiet (i := 15) (v := ?va15) rfl rfl (by kernel_rfl) (by kernel_rfl) (by kernel_rfl) ?ya15 ?ra15
              case ya15 => (intro w hSw; (try dsimp only at hSw); go_simp; try with_reducible rfl)
              case ra15 =>
              try simp only [Act.put, List.setIfInBounds_toArray, List.set_cons_zero, List.set_cons_succ]
              refine Dt.quiet (i := 16) (v := ?va16) rfl rfl (by kernel_rfl) (by kernel_rfl) (by kernel_rfl) ?ya16 ?ra16
              case ya16 => (intro w hSw; (try dsimp only at hSw); go_simp; try with_reducible rfl)
              case ra16 =>
              try simp only [Act.put, List.setIfInBounds_toArray, List.set_cons_zero, List.set_cons_succ]
              refine Dt.quiet (i := 17) (v := ?va17) rfl rfl (by kernel_rfl) (by kernel_rfl) (by kernel_rfl) ?ya17 ?ra17
              case ya17 => (intro w hSw; (try dsimp only at hSw); go_simp; try with_reducible rfl)
              case ra17 =>
              try simp only [Act.put, List.setIfInBounds_toArray, List.set_cons_zero, List.set_cons_succ]
              refine Dt.quiet (i := 18) (v := ?va18) rfl rfl (by kernel_rfl) (by kernel_rfl) (by kernel_rfl) ?ya18 ?ra18
              case ya18 => (intro w hSw; (try dsimp only at hSw); go_simp; try with_reducible rfl)
              case ra18 =>
              try simp only [Act.put, List.setIfInBounds_toArray, List.set_cons_zero, List.set_cons_succ]
              refine Dt.quiet (i := 19) (v := ?va19) rfl rfl (by kernel_rfl) (by kernel_rfl) (by kernel_rfl) ?ya19 ?ra19
              case ya19 => (intro w hSw; (try dsimp only at hSw); go_simp; try with_reducible rfl)
              case ra19 =>
              try simp only [Act.put, List.setIfInBounds_toArray, List.set_cons_zero, List.set_cons_succ]
              refine Dt.quiet (i := 20) (v := ?va20) rfl rfl (by kernel_rfl) (by kernel_rfl) (by kernel_rfl) ?ya20 ?ra20
              case ya20 => (intro w hSw; (try dsimp only at hSw); go_simp; try with_reducible rfl)
              case ra20 =>
              try simp only [Act.put, List.setIfInBounds_toArray, List.set_cons_zero, List.set_cons_succ]
              refine Dt.quiet (i := 21) (v := ?va21) rfl rfl (by kernel_rfl) (by kernel_rfl) (by kernel_rfl) ?ya21 ?ra21
              case ya21 => (intro w hSw; (try dsimp only at hSw); go_simp; try with_reducible rfl)
              case ra21 =>
              try simp only [Act.put, List.setIfInBounds_toArray, List.set_cons_zero, List.set_cons_succ]
              refine Dt.quiet (i := 22) (v := ?va22) rfl rfl (by kernel_rfl) (by kernel_rfl) (by kernel_rfl) ?ya22 ?ra22
              case ya22 => (intro w hSw; (try dsimp only at hSw); go_simp; try with_reducible rfl)
              case ra22 =>
              try simp only [Act.put, List.setIfInBounds_toArray, List.set_cons_zero, List.set_cons_succ]
              refine Dt.quiet (i := 23) (v := ?va23) rfl rfl (by kernel_rfl) (by kernel_rfl) (by kernel_rfl) ?ya23 ?ra23
              case ya23 => (intro w hSw; (try dsimp only at hSw); go_simp; try with_reducible rfl)
              case ra23 =>
              try simp only [Act.put, List.setIfInBounds_toArray, List.set_cons_zero, List.set_cons_succ]
              refine Dt.quiet (i := 24) (v := ?va24) rfl rfl (by kernel_rfl) (by kernel_rfl) (by kernel_rfl) ?ya24 ?ra24
              case ya24 => (intro w hSw; (try dsimp only at hSw); go_simp; try with_reducible rfl)
              case ra24 =>
              try simp only [Act.put, List.setIfInBounds_toArray, List.set_cons_zero, List.set_cons_succ]
              refine Dt.quiet (i := 25) (v := ?va25) rfl rfl (by kernel_rfl) (by kernel_rfl) (by kernel_rfl) ?ya25 ?ra25
              case ya25 => (intro w hSw; (try dsimp only at hSw); go_simp; try with_reducible rfl)
              case ra25 =>
              try simp only [Act.put, List.setIfInBounds_toArray, List.set_cons_zero, List.set_cons_succ]
              refine Dt.quiet (i := 26) (v := ?va26) rfl rfl (by kernel_rfl) (by kernel_rfl) (by kernel_rfl) ?ya26 ?ra26
              case ya26 => (intro w hSw; (try dsimp only at hSw); go_simp; try with_reducible rfl)
              case ra26 =>
              try simp only [Act.put, List.setIfInBounds_toArray, List.set_cons_zero, List.set_cons_succ]
              refine Dt.quiet (i := 27) (v := ?va27) rfl rfl (by kernel_rfl) (by kernel_rfl) (by kernel_rfl) ?ya27 ?ra27
              case ya27 => (intro w hSw; (try dsimp only at hSw); go_simp; try with_reducible rfl)
              case ra27 =>
              try simp only [Act.put, List.setIfInBounds_toArray, List.set_cons_zero, List.set_cons_succ]
              refine Dt.quiet (i := 28) (v := ?va28) rfl rfl (by kernel_rfl) (by kernel_rfl) (by kernel_rfl) ?ya28 ?ra28
              case ya28 => (intro w hSw; (try dsimp only at hSw); go_simp; try with_reducible rfl)
              case ra28 =>
              try simp only [Act.put, List.setIfInBounds_toArray, List.set_cons_zero, List.set_cons_succ]
              refine Dt.quiet (i := 29) (v := ?va29) rfl rfl (by kernel_rfl) (by kernel_rfl) (by kernel_rfl) ?ya29 ?ra29
              case ya29 => (intro w hSw; (try dsimp only at hSw); go_simp; try with_reducible rfl)
              case ra29 =>
              try simp only [Act.put, List.setIfInBounds_toArray, List.set_cons_zero, List.set_cons_succ]
              refine Dt.done (by kernel_rfl) (by kernel_rfl) ?_
              intro wza hSza
              have HTZ := hid (HTW.out.below hSza.1)
              have HBZ := hid (HBEL.out.trans (hSza.1.mono HBEL.out.size))
              have HKEEPb : Hid (∀ w', Below wza.heap.size wza w' → Below wza.heap.size wza w' ∧ w'.cell? ⟨w.heap.size, 1, none⟩ = some (.int .i64 cn) ∧ w'.cell? ⟨w.heap.size, 2, none⟩ = some (.slice (some ⟨b1, o1, none⟩) la ca) ∧ w'.cell? ⟨b1, o1 + j, none⟩ = some (.int .i64 X1) ∧ w'.cell? ⟨b1, o1 + s1, none⟩ = some (.int .i64 X2) ∧ w'.cell? ⟨b1, o1 + q, none⟩ = some (.int .i64 X3) ∧ w'.cell? ⟨b1, o1 + s2, none⟩ = some (.int .i64 X4)) := hid (fun w' hb => by
                obtain ⟨g0, g1, g2, g3, g4, g5, g6⟩ := hSza
                exact ⟨hb, cellB hb g1, cellB hb g2, cellB hb g3, cellB hb g4, cellB hb g5, cellB hb g6⟩)
              clear HKEEPa hSza HTW HBEL
              by_cases hd0 : d3 = 0
              · have h0b : (d3 == 0) = true := by simpa using hd0
                have HNO : Hid (cand nn d3 = []) := hid (by rw [cand, if_neg (fun h => h.1 hd0)])
                clear hd0
                go_wp2_with fail
                go_roundw
                case rel => exact ⟨m + 1, n2, L2, by have := HQE.out; omega, by have := HQE.out; go_num, hid (by have := HSP2.out; rw [HNO.out, List.append_nil] at this; exact this), HTZ.out, HBZ.out⟩
                case measure => simp [intOf]; omega
              · have h0b : (d3 == 0) = false := by simpa using hd0
                have HLE := hid (fun w' => least2 nn d3 w' (by omega) (by omega) (by omega) (by omega) hd0)
                have HCN : Hid (cand nn d3 = if 0 ≤ (red nn d3).1 ∧ (red nn d3).1 ≤ (red nn d3).2 then [((red nn d3).1, (red nn d3).2)] else []) := hid (by
                  unfold cand
                  by_cases hc : 0 ≤ (red nn d3).1 ∧ (red nn d3).1 ≤ (red nn d3).2
                  · rw [if_pos ⟨hd0, hc⟩, if_pos hc]
                  · rw [if_neg (fun h => hc h.2), if_neg hc])
                clear hd0
                obtain ⟨r1, hr1⟩ : ∃ r, (red nn d3).1 = r := ⟨_, rfl⟩
                obtain ⟨r2, hr2⟩ : ∃ r, (red nn d3).2 = r := ⟨_, rfl⟩
                rw [hr1, hr2] at HLE HCN
                clear hr1 hr2
                have HW := hid (fun w' => l00In r1 0 r2 w')
                go_wp2_with fail
                refine Dt.start (n := 24) (by kernel_rfl) (by kernel_rfl) ?_
                refine Dt.enter (S := fun w' => Below wza.heap.size wza w' ∧ w'.cell? ⟨w.heap.size, 1, none⟩ = some (.int .i64 cn) ∧ w'.cell? ⟨w.heap.size, 2, none⟩ = some (.slice (some ⟨b1, o1, none⟩) la ca) ∧ w'.cell? ⟨b1, o1 + j, none⟩ = some (.int .i64 X1) ∧ w'.cell? ⟨b1, o1 + s1, none⟩ = some (.int .i64 X2) ∧ w'.cell? ⟨b1, o1 + q, none⟩ = some (.int .i64 X3) ∧ w'.cell? ⟨b1, o1 + s2, none⟩ = some (.int .i64 X4)) (T := []) (m := 0) (n := 24) (by kernel_rfl) (by kernel_rfl) (by kernel_rfl) (by kernel_rfl) ?bS ?bD
                case bS => (first | exact HKEEPb.out _ (Below.refl _ _).drew | (fail))
                case bD =>
                refine Dt.quiet (i := 0) (v := ?vb0) rfl rfl (by kernel_rfl) (by kernel_rfl) (by kernel_rfl) ?yb0 ?rb0
                case yb0 => (intro w hSw; (try dsimp only at hSw); go_simp; try with_reducible rfl)
                case rb0 =>
                try simp only [Act.put, List.setIfInBounds_toArray, List.set_cons_zero, List.set_cons_succ]
                refine Dt.quiet (i := 1) (v := ?vb1) rfl rfl (by kernel_rfl) (by kernel_rfl) (by kernel_rfl) ?yb1 ?rb1
                case yb1 => (intro w hSw; (try dsimp only at hSw); go_simp; try with_reducible rfl)
                case rb1 =>
                try simp only [Act.put, List.setIfInBounds_toArray, List.set_cons_zero, List.set_cons_succ]
                refine Dt.quiet (i := 2) (v := ?vb2) rfl rfl (by kernel_rfl) (by kernel_rfl) (by kernel_rfl) ?yb2 ?rb2
                case yb2 => (intro w hSw; (try dsimp only at hSw); go_simp; try with_reducible rfl)
                case rb2 =>
                try simp only [Act.put, List.setIfInBounds_toArray, List.set_cons_zero, List.set_cons_succ]
                refine Dt.quiet (i := 3) (v := ?vb3) rfl rfl (by kernel_rfl) (by kernel_rfl) (by kernel_rfl) ?yb3 ?rb3
                case yb3 => (intro w hSw; (try dsimp only at hSw); go_simp; try with_reducible rfl)
                case rb3 =>
                try simp only [Act.put, List.setIfInBounds_toArray, List.set_cons_zero, List.set_cons_succ]
                refine Dt.quiet (i := 4) (v := ?vb4) rfl rfl (by kernel_rfl) (by kernel_rfl) (by kernel_rfl) ?yb4 ?rb4
                case yb4 => (intro w hSw; (try dsimp only at hSw); go_simp; try with_reducible rfl)
                case rb4 =>
                try simp only [Act.put, List.setIfInBounds_toArray, List.set_cons_zero, List.set_cons_succ]
                refine Dt.quiet (i := 5) (v := ?vb5) rfl rfl (by kernel_rfl) (by kernel_rfl) (by kernel_rfl) ?yb5 ?rb5
                case yb5 => (intro w hSw; (try dsimp only at hSw); go_simp; try with_reducible rfl)
                case rb5 =>
                try simp only [Act.put, List.setIfInBounds_toArray, List.set_cons_zero, List.set_cons_succ]
                refine Dt.quiet (i := 6) (v := ?vb6) rfl rfl (by kernel_rfl) (by kernel_rfl) (by kernel_rfl) ?yb6 ?rb6
                case yb6 => (intro w hSw; (try dsimp only at hSw); go_simp; try with_reducible rfl)
                case rb6 =>
                try simp only [Act.put, List.setIfInBounds_toArray, List.set_cons_zero, List.set_cons_succ]
                refine Dt.quiet (i := 7) (v := ?vb7) rfl rfl (by kernel_rfl) (by kernel_rfl) (by kernel_rfl) ?yb7 ?rb7
                case yb7 => (intro w hSw; (try dsimp only at hSw); go_simp; try with_reducible rfl)
                case rb7 =>
                try simp only [Act.put, List.setIfInBounds_toArray, List.set_cons_zero, List.set_cons_succ]
                refine Dt.quiet (i := 8) (v := ?vb8) rfl rfl (by kernel_rfl) (by kernel_rfl) (by kernel_rfl) ?yb8 ?rb8
                case yb8 => (intro w hSw; (try dsimp only at hSw); go_simp; try with_reducible rfl)
                case rb8 =>
                try simp only [Act.put, List.setIfInBounds_toArray, List.set_cons_zero, List.set_cons_succ]
                refine Dt.quiet (i := 9) (v := ?vb9) rfl rfl (by kernel_rfl) (by kernel_rfl) (by kernel_rfl) ?yb9 ?rb9
                case yb9 => (intro w hSw; (try dsimp only at hSw); go_simp; try with_reducible rfl)
                case rb9 =>
                try simp only [Act.put, List.setIfInBounds_toArray, List.set_cons_zero, List.set_cons_succ]
                refine Dt.quiet (i := 10) (v := ?vb10) rfl rfl (by kernel_rfl) (by kernel_rfl) (by kernel_rfl) ?yb10 ?rb10
                case yb10 => (intro w hSw; (try dsimp only at hSw); go_simp; try with_reducible rfl)
                case rb10 =>
                try simp only [Act.put, List.setIfInBounds_toArray, List.set_cons_zero, List.set_cons_succ]
                refine Dt.quiet (i := 11) (v := ?vb11) rfl rfl (by kernel_rfl) (by kernel_rfl) (by kernel_rfl) ?yb11 ?rb11
                case yb11 => (intro w hSw; (try dsimp only at hSw); go_simp; try with_reducible rfl)
                case rb11 =>
                try simp only [Act.put, List.setIfInBounds_toArray, List.set_cons_zero, List.set_cons_succ]
                refine Dt.quiet (i := 12) (v := ?vb12) rfl rfl (by kernel_rfl) (by kernel_rfl) (by kernel_rfl) ?yb12 ?rb12
                case yb12 => (intro w hSw; (try dsimp only at hSw); go_simp; try with_reducible rfl)
                case rb12 =>
                try simp only [Act.put, List.setIfInBounds_toArray, List.set_cons_zero, List.set_cons_succ]
                refine Dt.quiet (i := 13) (v := ?vb13) rfl rfl (by kernel_rfl) (by kernel_rfl) (by kernel_rfl) ?yb13 ?rb13
                case yb13 => (intro w hSw; (try dsimp only at hSw); go_simp; try with_reducible rfl)
                case rb13 =>
                try simp only [Act.put, List.setIfInBounds_toArray, List.set_cons_zero, List.set_cons_succ]
                refine Dt.quiet (i := 14) (v := ?vb14) rfl rfl (by kernel_rfl) (by kernel_rfl) (by kernel_rfl) ?yb14 ?rb14
                case yb14 => (intro w hSw; (try dsimp only at hSw); go_simp; try with_reducible rfl)
                case rb14 =>
                try simp only [Act.put, List.setIfInBounds_toArray, List.set_cons_zero, List.set_cons_succ]
                refine Dt.quiet (i := 15) (v := ?vb15) rfl rfl (by kernel_rfl) (by kernel_rfl) (by kernel_rfl) ?yb15 ?rb15
                case yb15 => (intro w hSw; (try dsimp only at hSw); go_simp; try with_reducible rfl)
                case rb15 =>
                try simp only [Act.put, List.setIfInBounds_toArray, List.set_cons_zero, List.set_cons_succ]
                refine Dt.quiet (i := 16) (v := ?vb16) rfl rfl (by kernel_rfl) (by kernel_rfl) (by kernel_rfl) ?yb16 ?rb16
                case yb16 => (intro w hSw; (try dsimp only at hSw); go_simp; try with_reducible rfl)
                case rb16 =>
                try simp only [Act.put, List.setIfInBounds_toArray, List.set_cons_zero, List.set_cons_succ]
                refine Dt.quiet (i := 17) (v := ?vb17) rfl rfl (by kernel_rfl) (by kernel_rfl) (by kernel_rfl) ?yb17 ?rb17
                case yb17 => (intro w hSw; (try dsimp only at hSw); go_simp; try with_reducible rfl)
                case rb17 =>
                try simp only [Act.put, List.setIfInBounds_toArray, List.set_cons_zero, List.set_cons_succ]
                refine Dt.act (i := 18) (v := ?vb18) rfl rfl (by kernel_rfl) (by kernel_rfl) (by kernel_rfl) ?yb18 ?rb18
                case yb18 => (intro w K hSw hK; (try dsimp only at hSw); go_simp; refine Calls.mono (HLE.out _) ?_; rintro e w5 ⟨rfl, n5, rfl⟩; refine ⟨_, rfl, hK.out _ _ ?_ (HKEEPb.out _ (below_drewN hSw.1 n5))⟩; with_reducible rfl)
                case rb18 =>
                try simp only [Act.put, List.setIfInBounds_toArray, List.set_cons_zero, List.set_cons_succ]
                refine Dt.quiet (i := 19) (v := ?vb19) rfl rfl (by kernel_rfl) (by kernel_rfl) (by kernel_rfl) ?yb19 ?rb19
                case yb19 => (intro w hSw; (try dsimp only at hSw); go_simp; try with_reducible rfl)
                case rb19 =>
                try simp only [Act.put, List.setIfInBounds_toArray, List.set_cons_zero, List.set_cons_succ]
                refine Dt.quiet (i := 20) (v := ?vb20) rfl rfl (by kernel_rfl) (by kernel_rfl) (by kernel_rfl) ?yb20 ?rb20
                case yb20 => (intro w hSw; (try dsimp only at hSw); go_simp; try with_reducible rfl)
                case rb20 =>
                try simp only [Act.put, List.setIfInBounds_toArray, List.set_cons_zero, List.set_cons_succ]
                refine Dt.quiet (i := 21) (v := ?vb21) rfl rfl (by kernel_rfl) (by kernel_rfl) (by kernel_rfl) ?yb21 ?rb21
                case yb21 => (intro w hSw; (try dsimp only at hSw); go_simp; try with_reducible rfl)
                case rb21 =>
                try simp only [Act.put, List.setIfInBounds_toArray, List.set_cons_zero, List.set_cons_succ]
                refine Dt.quiet (i := 22) (v := ?vb22) rfl rfl (by kernel_rfl) (by kernel_rfl) (by kernel_rfl) ?yb22 ?rb22
                case yb22 => (intro w hSw; (try dsimp only at hSw); go_simp; try with_reducible rfl)
                case rb22 =>
                try simp only [Act.put, List.setIfInBounds_toArray, List.set_cons_zero, List.set_cons_succ]
                refine Dt.quiet (i := 23) (v := ?vb23) rfl rfl (by kernel_rfl) (by kernel_rfl) (by kernel_rfl) ?yb23 ?rb23
                case yb23 => (intro w hSw; (try dsimp only at hSw); go_simp; try with_reducible rfl)
                case rb23 =>
                try simp only [Act.put, List.setIfInBounds_toArray, List.set_cons_zero, List.set_cons_succ]
                refine Dt.done (by kernel_rfl) (by kernel_rfl) ?_
                intro wzb hSzb
                have HTY := hid (HTZ.out.below hSzb.1)
                have HBY := hid (HBZ.out.trans (hSzb.1.mono HBZ.out.size))
                clear hSzb HTZ HBZ HKEEPb
                by_cases hin : 0 ≤ r1 ∧ r1 ≤ r2
                · have hiB : inB 0 r2 r1 = true := by unfold inB; exact decide_eq_true hin
                  rw [hiB] at HW
                  have HNO : Hid (cand nn d3 = [(r1, r2)]) := hid (by rw [HCN.out, if_pos hin])
                  clear hin hiB HCN
                  go_wp2_with (first
                    | (go_at_call 96; refine (HW.out _).mono ?_; rintro e w1 ⟨rfl, rfl⟩)
                    | (at_builtin; refine wpList_appT1 rfl (.tmp 101) (.tmp 103) rfl wq.heap.size HBY.out.size _ n2 _ _ n2 _ r1 rfl HTY.out (by omega) rfl ?_; intro v1' w3 ht3 hb3; have HT3 := hid ht3; have HB3 := hid (HBY.out.trans hb3); clear ht3 hb3)
                    | (at_builtin; refine wpList_appT2 rfl (.tmp 105) (.tmp 107) rfl wq.heap.size HB3.out.size _ (n2 + 1) _ _ n2 _ r2 rfl HT3.out (by omega) rfl ?_; intro v2' w4 ht4 hb4; have HT4 := hid ht4; have HB4 := hid (HB3.out.trans hb4); clear ht4 hb4))
                  go_roundw
                  case rel => exact ⟨m + 1, n2 + 1, L2 ++ [(r1, r2)], by have := HQE.out; omega, by have := HQE.out; go_num, hid (by have := HSP2.out; rw [HNO.out] at this; exact this), by rw [List.map_append, List.map_append]; exact HT4.out, HB4.out⟩
                  case measure => simp [intOf]; omega
                · have hiB : inB 0 r2 r1 = false := by unfold inB; exact decide_eq_false hin
                  rw [hiB] at HW
                  have HNO : Hid (cand nn d3 = []) := hid (by rw [HCN.out, if_neg hin])
                  clear hin hiB HCN
                  go_wp2_with (go_at_call 96; refine (HW.out _).mono ?_; rintro e w1 ⟨rfl, rfl⟩)
                  go_roundw
                  case rel => exact ⟨m + 1, n2, L2, by have := HQE.out; omega, by have := HQE.out; go_num, hid (by have := HSP2.out; rw [HNO.out, List.append_nil] at this; exact this), HTY.out, HBY.out⟩
                  case measure => simp [intOf]; omega
            · obtain rfl : q = cn := by omega
              go_wp2_with fail
              go_roundw
              case rel => exact ⟨j + 1, n2, L2, by omega, by go_num, hid (HEN.out rfl), HTW.out, HBEL.out⟩
              case measure => simp [intOf]; omega
        · obtain rfl : j = cn := by omega
          obtain ⟨a1, cap1, hv1, hcap1, hob1⟩ := OwB.of_row HTW.out.r1
          obtain ⟨a2, cap2, hv2, hcap2, hob2⟩ := OwB.of_row HTW.out.r2
          subst hv1
          subst hv2
          have hnL : n = L.length := by have := HTW.out.r1.1; simpa using this.symm
          have hn2 : 2 ≤ n := by rw [hnL, HL.out]; simp [chS]
          have hn44 : n ≤ 44 := by
            have := chS_len A B (c := j) (j := j) (m := 0) hc2 (Nat.le_refl _) (Nat.zero_le _)
            rw [spIn, List.append_nil, ← HL.out] at this
            omega
          obtain ⟨g1, rfl, -, -, -, hc1'⟩ := hob1.2 (by omega)
          obtain ⟨g2, rfl, -, -, -, hc2'⟩ := hob2.2 (by omega)
          have HC1 : Hid (∀ i, i < n → wr.cell? ⟨g1, i, none⟩ = some (.int .i64 (L.getD i (0, 0)).1)) := hid (fun i hi => by rw [(hc1' i hi).1, map_getD Prod.fst L i (0, 0) (by omega)])
          have HC2 : Hid (∀ i, i < n → wr.cell? ⟨g2, i, none⟩ = some (.int .i64 (L.getD i (0, 0)).2)) := hid (fun i hi => by rw [(hc2' i hi).1, map_getD Prod.snd L i (0, 0) (by omega)])
          have HFX : Hid (∀ i, i < n → Fit1 (L.getD i (0, 0))) := hid (fun i hi => by
            rw [List.getD_eq_getElem?_getD, List.getElem?_eq_getElem (show i < L.length by omega)]
            exact HF2.out _ (by rw [← HL.out]; exact List.getElem_mem _))
          have d1 : wr.cell? ⟨g1, 0, none⟩ = some (.int .i64 0) := by rw [HC1.out 0 (by omega), HL.out]; rfl
          have d2 : wr.cell? ⟨g2, 0, none⟩ = some (.int .i64 1) := by rw [HC2.out 0 (by omega), HL.out]; rfl
          have HBS : Hid (∀ k, k + 1 < n → bestS V A B j (k + 1) = pick V (bestS V A B j k) (L.getD (k + 1) (0, 0))) := hid (fun k hk => by rw [HL.out]; exact bestS_succ V A B j k (by rw [← HL.out]; omega))
          have HCE2 : Hid (∀ k, k + 1 = n → bestS V A B j k = CF) := hid (fun k hk => HCE.out k (by rw [← HL.out]; omega))
          have HB0 : Hid (bestS V A B j 0 = (0, 1)) := hid rfl
          have HBQ := hid (below_to HQ.out HBEL.out)
          obtain ⟨F, hF⟩ : ∃ F, bestS V A B j = F := ⟨_, rfl⟩
          rw [hF] at HB0 HCE2 HF1 HBS
          clear hF HCE HF2 hnL hob1 hob2 hc1' hc2'
          have i1 : (0 : Int) < (n : Int) := by omega
          have i1' : 0 < n := by omega
          obtain ⟨V0, hV0⟩ : ∃ v, V (0, 1) = v := ⟨_, rfl⟩
          have HV0 := hid hV0
          have HWX := hid (HWO.out 0 1 wr ⟨by decide, by decide, by decide, by decide⟩ HBQ.out)
          rw [hV0] at HWX
          clear hV0
          go_wp2_with (go_at_call 114; refine HWX.out.mono ?_; rintro e w5 ⟨rfl, n5, hw5⟩; have HB5 : Hid (Below wr.heap.size wr w5) := hid (by rw [hw5]; exact below_drewN (Below.refl _ _) n5); clear hw5)
          clear d1 d2 f1
          go_loopw [14, 15, 16, 17, 18, 19] (fun p q v i x mo w6 => ∃ k s : Nat, s = k + 1 ∧ s ≤ n ∧ i = .int .i64 (s : Int) ∧ p = .int .i64 (F k).1 ∧ q = .int .i64 (F k).2 ∧ v = .int .i64 (V (F k)) ∧ Below w5.heap.size w5 w6) (fun _ _ _ i _ _ _ => n - (intOf i).toNat)
          case atStart => exact ⟨0, 1, rfl, by omega, rfl, by rw [HB0.out], by rw [HB0.out], by rw [HB0.out, HV0.out], Below.refl _ _⟩
          case round =>
            obtain ⟨k, s, hs, hsn, rfl, rfl, rfl, rfl, hbel⟩ := hrel
            rename World => w6
            have HB6 := hid (below_to HB5.out hbel)
            have HB7 := hid hbel
            clear hbel
            have HKS := hid hs
            have hfit := HF1.out k
            obtain ⟨pq, hpq⟩ : ∃ x, F k = x := ⟨_, rfl⟩
            rw [hpq] at hfit ⊢
            have HPQ := hid hpq
            obtain ⟨p, q⟩ := pq
            obtain ⟨y1, y2, y3, y4⟩ := hfit
            clear hpq
            have HVB := hid (HVW.out (p, q) ⟨y1, y2, y3, y4⟩)
            obtain ⟨v, hv⟩ : ∃ v, V (p, q) = v := ⟨_, rfl⟩
            have HVV := hid hv
            rw [hv] at HVB ⊢
            clear hv
            obtain ⟨hv1, hv2⟩ := HVB.out
            simp only at y1 y2 y3 y4
            by_cases hsl : s < n
            · have hfx := HFX.out s hsl
              have e1 := HC1.out s hsl
              have e2 := HC2.out s hsl
              have HBN := hid (HBS.out k (by omega))
              rw [← hs] at HBN
              obtain ⟨xx, hxx⟩ : ∃ x, L.getD s (0, 0) = x := ⟨_, rfl⟩
              rw [hxx] at hfx e1 e2 HBN
              clear hxx
              obtain ⟨x1, x2⟩ := xx
              obtain ⟨z1, z2, z3, z4⟩ := hfx
              have HXB := hid (HVW.out (x1, x2) ⟨z1, z2, z3, z4⟩)
              have HWR0 := hid (fun (w' : World) (hb : Below w6.heap.size w6 w') => HWO.out x1 x2 w' ⟨z1, z2, z3, z4⟩ (below_to (below_to HBQ.out HB6.out) hb))
              obtain ⟨xv, hxv⟩ : ∃ v, V (x1, x2) = v := ⟨_, rfl⟩
              have HXV := hid hxv
              rw [hxv] at HXB HWR0
              have HWR := HWR0
              clear hxv HWR0
              obtain ⟨hx1, hx2⟩ := HXB.out
              simp only at z1 z2 z3 z4 e1 e2
              have c1 : w6.cell? ⟨g1, s, none⟩ = some (.int .i64 x1) := cellB HB6.out e1
              have c2 : w6.cell? ⟨g2, s, none⟩ = some (.int .i64 x2) := cellB HB6.out e2
              have HBT : Hid (Better V (x1, x2) (p, q) ↔ 0 < xv * q - v * x2 ∨ (xv * q - v * x2 = 0 ∧ x1 * q < p * x2)) := hid (by
                rw [Better, HXV.out, HVV.out])
              have HUP0 : Hid (F s = if Better V (x1, x2) (p, q) then (x1, x2) else (p, q)) := hid (by
                rw [HBN.out, HPQ.out]; rfl)
              obtain ⟨m1, hm1⟩ : ∃ m, xv * q = m := ⟨_, rfl⟩
              obtain ⟨m2, hm2⟩ : ∃ m, v * x2 = m := ⟨_, rfl⟩
              obtain ⟨m3, hm3⟩ : ∃ m, m1 - m2 = m := ⟨_, rfl⟩
              obtain ⟨m4, hm4⟩ : ∃ m, x1 * q = m := ⟨_, rfl⟩
              obtain ⟨m5, hm5⟩ : ∃ m, p * x2 = m := ⟨_, rfl⟩
              have g1' := mul_bd (a := xv) (b := q) (A := 8000000) (B := 4000) hx1 hx2 (by omega) y4
              have g2' := mul_bd (a := v) (b := x2) (A := 8000000) (B := 4000) hv1 hv2 (by omega) z4
              have g3' := mul_bd (a := x1) (b := q) (A := 4000) (B := 4000) (by omega) (by omega) (by omega) y4
              have g4' := mul_bd (a := p) (b := x2) (A := 4000) (B := 4000) (by omega) (by omega) (by omega) z4
              rw [hm1] at g1'
              rw [hm2] at g2'
              rw [hm4] at g3'
              rw [hm5] at g4'
              rw [hm1, hm2, hm3, hm4, hm5] at HBT
              have t1 : IntKind.i64.wrap m1 = m1 := IntWalk.i64_in _ (by omega)
              have t2 : IntKind.i64.wrap m2 = m2 := IntWalk.i64_in _ (by omega)
              have t3 : IntKind.i64.wrap m3 = m3 := IntWalk.i64_in _ (by omega)
              have t4 : IntKind.i64.wrap m4 = m4 := IntWalk.i64_in _ (by omega)
              have t5 : IntKind.i64.wrap m5 = m5 := IntWalk.i64_in _ (by omega)
              have HKEEPc : Hid (∀ w', Below w6.heap.size w6 w' → Below w6.heap.size w6 w' ∧ w'.cell? ⟨g1, s, none⟩ = some (.int .i64 x1) ∧ w'.cell? ⟨g2, s, none⟩ = some (.int .i64 x2)) := hid (fun w' hb => ⟨hb, cellB hb c1, cellB hb c2⟩)
              have i2 : (0 : Int) ≤ (s : Int) := by omega
              have i3 : (s : Int) < (n : Int) := by omega
              clear hs g1' g2' g3' g4' e1 e2 c1 c2 z1 z2 z3 z4 y1 y2 y3 y4 HBN HXB HVB
              go_wp2_with fail
              refine Dt.start (n := 10) (by kernel_rfl) (by kernel_rfl) ?_
              refine Dt.enter (S := fun w' => Below w6.heap.size w6 w' ∧ w'.cell? ⟨g1, s, none⟩ = some (.int .i64 x1) ∧ w'.cell? ⟨g2, s, none⟩ = some (.int .i64 x2)) (T := []) (m := 0) (n := 10) (by kernel_rfl) (by kernel_rfl) (by kernel_rfl) (by kernel_rfl) ?cS ?cD
              case cS => (first | exact HKEEPc.out _ (Below.refl _ _).drew | (fail))
              case cD =>
              refine Dt.quiet (i := 0) (v := ?vc0) rfl rfl (by kernel_rfl) (by kernel_rfl) (by kernel_rfl) ?yc0 ?rc0
              case yc0 => (intro w hSw; (try dsimp only at hSw); go_simp; try with_reducible rfl)
              case rc0 =>
              try simp only [Act.put, List.setIfInBounds_toArray, List.set_cons_zero, List.set_cons_succ]
              refine Dt.quiet (i := 1) (v := ?vc1) rfl rfl (by kernel_rfl) (by kernel_rfl) (by kernel_rfl) ?yc1 ?rc1
              case yc1 => (intro w hSw; (try dsimp only at hSw); go_simp; try with_reducible rfl)
              case rc1 =>
              try simp only [Act.put, List.setIfInBounds_toArray, List.set_cons_zero, List.set_cons_succ]
              refine Dt.quiet (i := 2) (v := ?vc2) rfl rfl (by kernel_rfl) (by kernel_rfl) (by kernel_rfl) ?yc2 ?rc2
              case yc2 => (intro w hSw; (try dsimp only at hSw); go_simp; try with_reducible rfl)
              case rc2 =>
              try simp only [Act.put, List.setIfInBounds_toArray, List.set_cons_zero, List.set_cons_succ]
              refine Dt.quiet (i := 3) (v := ?vc3) rfl rfl (by kernel_rfl) (by kernel_rfl) (by kernel_rfl) ?yc3 ?rc3
              case yc3 => (intro w hSw; (try dsimp only at hSw); go_simp; try with_reducible rfl)
              case rc3 =>
              try simp only [Act.put, List.setIfInBounds_toArray, List.set_cons_zero, List.set_cons_succ]
              refine Dt.quiet (i := 4) (v := ?vc4) rfl rfl (by kernel_rfl) (by kernel_rfl) (by kernel_rfl) ?yc4 ?rc4
              case yc4 => (intro w hSw; (try dsimp only at hSw); go_simp; try with_reducible rfl)
              case rc4 =>
              try simp only [Act.put, List.setIfInBounds_toArray, List.set_cons_zero, List.set_cons_succ]
              refine Dt.quiet (i := 5) (v := ?vc5) rfl rfl (by kernel_rfl) (by kernel_rfl) (by kernel_rfl) ?yc5 ?rc5
              case yc5 => (intro w hSw; (try dsimp only at hSw); go_simp; try with_reducible rfl)
              case rc5 =>
              try simp only [Act.put, List.setIfInBounds_toArray, List.set_cons_zero, List.set_cons_succ]
              refine Dt.quiet (i := 6) (v := ?vc6) rfl rfl (by kernel_rfl) (by kernel_rfl) (by kernel_rfl) ?yc6 ?rc6
              case yc6 => (intro w hSw; (try dsimp only at hSw); go_simp; try with_reducible rfl)
              case rc6 =>
              try simp only [Act.put, List.setIfInBounds_toArray, List.set_cons_zero, List.set_cons_succ]
              refine Dt.quiet (i := 7) (v := ?vc7) rfl rfl (by kernel_rfl) (by kernel_rfl) (by kernel_rfl) ?yc7 ?rc7
              case yc7 => (intro w hSw; (try dsimp only at hSw); go_simp; try with_reducible rfl)
              case rc7 =>
              try simp only [Act.put, List.setIfInBounds_toArray, List.set_cons_zero, List.set_cons_succ]
              refine Dt.act (i := 8) (v := ?vc8) rfl rfl (by kernel_rfl) (by kernel_rfl) (by kernel_rfl) ?yc8 ?rc8
              case yc8 => (intro w K hSw hK; (try dsimp only at hSw); go_simp; refine Calls.mono (HWR.out _ hSw.1) ?_; rintro e w5 ⟨rfl, n5, rfl⟩; refine ⟨_, rfl, hK.out _ _ ?_ (HKEEPc.out _ (below_drewN hSw.1 n5))⟩; with_reducible rfl)
              case rc8 =>
              try simp only [Act.put, List.setIfInBounds_toArray, List.set_cons_zero, List.set_cons_succ]
              refine Dt.quiet (i := 9) (v := ?vc9) rfl rfl (by kernel_rfl) (by kernel_rfl) (by kernel_rfl) ?yc9 ?rc9
              case yc9 => (intro w hSw; (try dsimp only at hSw); go_simp; try with_reducible rfl)
              case rc9 =>
              try simp only [Act.put, List.setIfInBounds_toArray, List.set_cons_zero, List.set_cons_succ]
              refine Dt.done (by kernel_rfl) (by kernel_rfl) ?_
              intro wzc hSzc
              obtain ⟨hz0, c1, c2⟩ := hSzc
              have HBR := hid (HB7.out.trans (hz0.mono HB7.out.size))
              clear hz0
              by_cases k1 : 0 < m3
              · have HUP : Hid (F s = (x1, x2)) := hid (by rw [HUP0.out, if_pos (HBT.out.mpr (.inl k1))])
                have HFV : Hid (V (x1, x2) = xv) := HXV
                clear HUP0 HBT
                go_wp2_with fail
                go_quiet (fail)
                go_wp2_with fail
                go_roundw
                case rel => exact ⟨s, s + 1, rfl, by omega, by go_num, by rw [HUP.out], by rw [HUP.out], by rw [HUP.out, HFV.out], below_drewN HBR.out _⟩
                case measure => simp [intOf]; omega
              · have k1b : decide (0 < m3) = false := by simpa using k1
                by_cases k2 : m3 = 0
                · have k2b : (m3 == 0) = true := by simpa using k2
                  by_cases k3 : m4 < m5
                  · have HUP : Hid (F s = (x1, x2)) := hid (by rw [HUP0.out, if_pos (HBT.out.mpr (.inr ⟨k2, k3⟩))])
                    have HFV : Hid (V (x1, x2) = xv) := HXV
                    clear HUP0 HBT k2 k1
                    go_wp2_with fail
                    go_quiet (fail)
                    go_wp2_with fail
                    go_roundw
                    case rel => exact ⟨s, s + 1, rfl, by omega, by go_num, by rw [HUP.out], by rw [HUP.out], by rw [HUP.out, HFV.out], below_drewN HBR.out _⟩
                    case measure => simp [intOf]; omega
                  · have HUP : Hid (F s = (p, q)) := hid (by rw [HUP0.out, if_neg (fun h => (HBT.out.mp h).elim k1 (fun h => k3 h.2))])
                    have HFV : Hid (V (p, q) = v) := HVV
                    clear HUP0 HBT k2 k1
                    go_wp2_with fail
                    go_quiet (fail)
                    go_wp2_with fail
                    go_roundw
                    case rel => exact ⟨s, s + 1, rfl, by omega, by go_num, by rw [HUP.out], by rw [HUP.out], by rw [HUP.out, HFV.out], below_drewN HBR.out _⟩
                    case measure => simp [intOf]; omega
                · have k2b : (m3 == 0) = false := by simpa using k2
                  have HUP : Hid (F s = (p, q)) := hid (by rw [HUP0.out, if_neg (fun h => (HBT.out.mp h).elim k1 (fun h => k2 h.1))])
                  have HFV : Hid (V (p, q) = v) := HVV
                  clear HUP0 HBT k2 k1
                  go_wp2_with fail
                  go_quiet (fail)
                  go_wp2_with fail
                  go_roundw
                  case rel => exact ⟨s, s + 1, rfl, by omega, by go_num, by rw [HUP.out], by rw [HUP.out], by rw [HUP.out, HFV.out], below_drewN HBR.out _⟩
                  case measure => simp [intOf]; omega
            · obtain rfl : s = n := by omega
              have HCP : Hid ((p, q) = CF) := hid (by rw [← HPQ.out]; exact HCE2.out k hs.symm)
              have HLF := hid (fun w' => least2 v q w' (by omega) (by omega) (by omega) (by omega) (by omega))
              have HRV : Hid (red (V CF) CF.2 = red v q) := hid (by rw [← HCP.out, HVV.out])
              clear hs y1 y2 y3 y4
              go_wp2_with (go_at_call 113; refine (HLF.out _).mono ?_; rintro e w8 ⟨rfl, n8, hw8⟩; have HB8 : Hid (Below w.heap.size w w8) := hid (by rw [hw8]; exact below_drewN (below_to HB2.out (below_to (HBEL.out.mono (Nat.le_refl _)) HB6.out)) n8); clear hw8)
              refine bodyPost_ret (v := .tuple #[.int .i64 p, .int .i64 q, .int .i64 (red v q).1, .int .i64 (red v q).2, .bool true]) (by simp [results, Try.results69, go_sem]) rfl ⟨?_, HB8.out⟩
              rw [HRV.out, ← HCP.out]
    · have hrb : (r == 2) = false := by simpa using hr
      have hrc : (r != 2) = true := by simp [hr]
      have e3 : twoD r c xs ys = false := by simp [twoD, hr]
      have e1 : twoC r c xs ys = (0, 0) := by simp [twoC, hr]
      have e2 : twoR r c xs ys = (0, 0) := by simp [twoR, hr]
      rw [e1, e2, e3]
      have HX := hid hbox
      have HB := hid bw
      clear hv hr e1 e2 e3 hbox h g bw hla hlb
      go_enter Try.func69, Try.ntmps69
      go_wp2_with fail
      refine HIS.out.mono ?_
      rintro e wq ⟨rfl, n0, hwq⟩
      have HB2 : Hid (Below w.heap.size w wq) := hid (by rw [hwq]; exact below_drewN HB.out n0)
      have f0 : wq.cell? ⟨w.heap.size, 0, none⟩ = some (.int .i64 r) := by rw [hwq]; exact ((HX.out.dr n0).2 0 _ rfl).1
      clear hwq
      go_wp2_with fail
      exact bodyPost_ret (v := .tuple #[.int .i64 0, .int .i64 0, .int .i64 0, .int .i64 0, .bool false]) (by simp [results, Try.results69, go_sem]) rfl ⟨rfl, HB2.out⟩
end TryWalk
end Go.Proofs.Ytlbmmecjiopbbaa
