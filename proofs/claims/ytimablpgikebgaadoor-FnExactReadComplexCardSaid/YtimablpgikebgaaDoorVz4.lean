/- Complex numbers read: the rebuild's reader. No condition but what the row lists. -/
import Derived.Test.YtimablpgikebgaaDoorVz7
import Derived.Deep.RegionHeld3
namespace Go.Proofs.YtimablpgikebgaaDoor
open Go.RowKit Sl
set_option linter.unusedVariables false
set_option linter.unusedSimpArgs false
namespace Walk
/-- 'append(out, y)' at a step of a region that draws its order. -/
theorem step_snocZ {wq : World} {ops : Array Oper} {o : Oper} {a : Act} {K : Act → World → Prop} {Q : Exit → Act → World → Prop} {E : Prop} (hgd : o.guard = none) (s x : Operand)
    (ho : o.op = .call { callee := .builtin .append, args := #[s, x], argTypes := #[33, 33] }) (B : Nat) (hB : B ≤ wq.heap.size) (y : Nat × Nat) (l : List (Nat × Nat)) (v : Value) (hl : l.length ≤ 2000000)
    (hs : a.eval s = v) (hx : a.eval x = .slice (some ⟨wq.heap.size, 0, none⟩) 1 1) (hown : OwnZ B wq v l)
    (h : ∀ v' w1, OwnZ B w1 v' (l ++ [y]) → Below B wq w1 → (∀ b, b < wq.heap.size → v.ownBlock ≠ some b → w1.heap[b]? = wq.heap[b]? ∧ v'.ownBlock ≠ some b) → K (a.put o.dst v') w1) :
    if Region.wanted o (yielded ops a.tmps) = true then Oper.wp Tryd.prog o a (wq.alloc (.cells #[.complex .f32 y.1 y.2] 55)) K Q else E := by
  have hw : Region.wanted o (yielded ops a.tmps) = true := by simp [Region.wanted, hgd]
  rw [if_pos hw]
  obtain ⟨i0, hi, hz0, hz1, hz2⟩ := info_parts infoZ
  have hrow := (hown.below (Below.alloc (Below.refl wq.heap.size wq) (Nat.le_refl _) (.cells #[.complex .f32 y.1 y.2] 55))).row
  obtain ⟨v', w1, hr, hown1, hgrow, -, hat⟩ := run_append_own_at (P := Tryd.prog) (w := wq.alloc (.cells #[.complex .f32 y.1 y.2] 55)) B 33 o.type 55 i0 (.complex .f32 0 0) 1 8 Tryd.underlying33 hi hz0 hz1 hz2 rfl (by decide) v l.length (l.map cz) hrow ⟨wq.heap.size, 0, none⟩ 1 1 [.complex .f32 y.1 y.2] rfl (by
    intro j u hj
    cases j with
    | zero =>
      simp at hj
      subst hj
      rw [Addr.add_lit]
      unfold World.cell?
      simp only [(MapKept.heap_alloc wq (.cells #[.complex .f32 y.1 y.2] 55)).1]
      rfl
    | succ j => simp at hj) (by
    intro u hu
    simp at hu
    subst hu
    rfl) (by unfold maxLen; omega) (by omega) (by simp; omega)
  unfold Oper.wp execOp
  simp only [ho, resolve, invoke, builtin, Sem.run_bind, Sem.run_pure, Result.andThen_ok, List.map_toArray, List.map_cons, List.map_nil, hs, hx, hr]
  have hb : Below B wq w1 := ((Below.refl B wq).alloc hB _).grown hgrow (by simp; omega) (fun q hq => (hrow.lt q hq).1)
  refine h v' w1 ?_ hb ?_
  · rcases hown1.2 with ⟨-, h0⟩ | ⟨g', cap', cur, rfl, hbg, hg, h2, h3, h4, h5⟩
    · simp at h0
    · exact ⟨g', cap', cur, by simp, hbg, hg, by simpa using h2, h3, by omega, by simpa [cz] using h5⟩
  · intro b hbl hne
    refine ⟨(hgrow.block b (by simp; omega) (fun e => hne e.symm)).trans ((Below.alloc (Below.refl wq.heap.size wq) (Nat.le_refl _) (.cells #[.complex .f32 y.1 y.2] 55)).block b hbl), fun e => ?_⟩
    rcases hat with hat | hat
    · exact hne (hat.symm.trans e)
    · rw [hat] at e
      simp at e
      omega
set_option maxRecDepth 100000 in
set_option maxHeartbeats 4000000 in
theorem imReadComplex (s : ByteArray) (hs : s.size ≤ 1048576) (w : World) (mx : Int) (hmx : w.cell? ⟨4, 0, none⟩ = some (.int .i64 mx)) (he1 : ErrAt w "strconv.ErrSyntax") (htz : w.cell? ⟨6, 15, none⟩ = some (.int .u8 4)) : Calls Tryd.prog 21 #[.string s] w fun e w' => RetZ s.data.toList w e w' := by
  have HE1 := hid he1
  have HMX := hid hmx
  have HMXB := hid (block_lt hmx)
  have HTZ := hid htz
  have HTB := hid (block_lt htz)
  clear he1 hmx htz
  by_cases hnone : s.data.toList = [110, 111, 110, 101]
  · have HR : Hid (rdz s.data.toList = ([], true)) := hid (by unfold rdz; rw [if_pos hnone])
    have hsn := none_yes hnone
    clear hnone
    subst hsn
    go_enter Tryd.func21, Tryd.ntmps21
    go_wp2_with fail
    refine (pieces_none _).mono ?_
    rintro e w1 ⟨rfl, rfl⟩
    go_wp2_with fail
    go_loopw [4, 13] (fun v i wr => i = .int .i64 (0 : Nat) ∧ OwnZ w.heap.size wr v [] ∧ Below w.heap.size w wr) (fun _ _ _ => 0)
    case atStart => exact ⟨rfl, OwnZ.start w, Below.alloc (Below.refl _ _) (Nat.le_refl _) _⟩
    case round =>
      obtain ⟨rfl, hown, hbel⟩ := hrel
      have HOWN := hid hown
      have HBEL := hid hbel
      obtain ⟨g, cap, cur, rfl, -⟩ := id hown
      have hp := hown.pk
      have HIM := hid (imComplexText _ 0 cap [] wr hp.slV.2 (fun k hk => absurd hk (Nat.not_lt_zero _)) (by omega) ((hbel.cell (p := ⟨6, 15, none⟩) HTB.out).trans HTZ.out))
      clear hown hbel hp
      go_wp2_with fail
      refine HIM.out.mono ?_
      rintro e w2 ⟨rfl, hb⟩
      have HOWN2 := hid (HOWN.out.below hb)
      have HB2 := hid (below_to HBEL.out hb)
      clear hb
      have hnt : ntxC [] 0 = ([110, 111, 110, 101], true) := by decide +kernel
      rw [hnt]
      go_wp2_with fail
      go_ret2
      exact ⟨_, by rw [HR.out]; rfl, by rw [HR.out]; exact HOWN2.out.pk, HB2.out⟩
  · obtain ⟨P, hP⟩ : ∃ P, Dec.cutL s.data.toList = P := ⟨_, rfl⟩
    have HR : Hid (rdz s.data.toList = if P.length ≤ 256 ∧ P.all okC = true then (valsZ P, true) else ([], false)) := hid (by unfold rdz; rw [if_neg hnone, hP])
    have HIFF : Hid ((∀ p ∈ P, p.length = 16) → (txtL (hexsC (valsZ P)) = s.data.toList ↔ P.all okC = true)) := hid (by rw [← hP]; exact txtC_iff _)
    have HCUT := pieces_no s hs hnone mx
    rw [hP] at HCUT
    have HC := hid HCUT
    have HPL : Hid (P.length ≤ 1048577) := hid (by
      rw [← hP]
      have := Dec.cut_len s.data.toList
      have e : s.data.toList.length = s.size := by simp
      omega)
    clear hnone HCUT hP
    go_enter Tryd.func21, Tryd.ntmps21
    go_wp2_with fail
    refine (HC.out _ (((Below.alloc (Below.refl w.heap.size w) (Nat.le_refl _) _).cell (p := ⟨4, 0, none⟩) HMXB.out).trans HMX.out)).mono ?_
    rintro e w1 ⟨rfl, hw1⟩
    obtain ⟨g, hg⟩ : ∃ g, (w.alloc (.cells #[] 55)).heap.size = g := ⟨_, rfl⟩
    have hgw : w.heap.size + 1 = g := by rw [← hg]; simp
    have hb0 : Below w.heap.size w (w.alloc (.cells #[] 55)) := Below.alloc (Below.refl _ _) (Nat.le_refl _) _
    have hb1 : Below g (w.alloc (.cells #[] 55)) w1 := by rw [hw1]; exact Below.alloc (Below.refl _ _) (by omega) _
    have HB1 : Hid (Below w.heap.size w w1) := hid (hb0.trans (hb1.mono (by omega)))
    have HST := hid ((OwnZ.start w).below (by rw [hg]; exact hb1))
    have HNE : Hid (w.heap.size ≠ g) := hid (by omega)
    have hheap : w1.heap[g]? = some (.cells ((strsB P).map Value.string).toArray 9 (0, 0)) := by rw [hw1, ← hg]; exact (MapKept.heap_alloc _ _).1
    have HG1 : Hid (g < w1.heap.size) := hid ((Array.getElem?_eq_some_iff.1 hheap).1)
    have HCELLS : Hid (∀ (j : Nat) x, (strsB P)[j]? = some x → w1.cell? ⟨g, 0 + j, none⟩ = some (.string x)) := hid (by
      intro j x hj
      simp only [World.cell?, hheap, Nat.zero_add]
      simp [hj])
    rw [hg]
    clear hw1 hgw hb0 hb1 hheap hg
    obtain ⟨m, hm⟩ : ∃ m, P.length = m := ⟨_, rfl⟩
    have HM := hid hm
    rw [hm]
    have hml : m ≤ 1048577 := by rw [← hm]; exact HPL.out
    clear hm
    go_wp2_with fail
    go_loopw [4, 13] (fun v i wr => ∃ (k : Nat), k ≤ m ∧ k ≤ 256 ∧ i = .int .i64 k ∧ OwnZ w.heap.size wr v (valsZ (P.take k)) ∧ v.ownBlock ≠ some g ∧ g < wr.heap.size ∧ wr.heap[g]? = w1.heap[g]? ∧ (∀ j, (hj : j < P.length) → j < k → P[j].length = 16) ∧ Below w.heap.size w wr) (fun _ i _ => m - (intOf i).toNat)
    case atStart => exact ⟨0, Nat.zero_le _, Nat.zero_le _, rfl, HST.out, by simpa [Value.ownBlock] using HNE.out, HG1.out, rfl, fun j _ hj => absurd hj (Nat.not_lt_zero _), HB1.out⟩
    case round =>
      obtain ⟨k, hk, hk256, rfl, hown, hob, hgl, hgs, hall, hbel⟩ := hrel
      have HOWN := hid hown
      have HOB := hid hob
      have HGL := hid hgl
      have HGS := hid hgs
      have HALL := hid hall
      have HBEL := hid hbel
      obtain ⟨g2, cap2, cur2, hv2, -⟩ := id hown
      have hvl : (valsZ (P.take k)).length = k := by unfold valsZ; rw [List.length_map, List.length_take, HM.out]; omega
      rw [hvl] at hv2
      subst hv2
      clear hown hob hgl hgs hall hbel hvl
      by_cases hlt : k < m
      · have hkP : k < P.length := by rw [HM.out]; exact hlt
        have hc1 : wr.cell? ⟨g, 0 + k, none⟩ = some (.string ⟨P[k].toArray⟩) := by
          rw [World.cell?_of_block (w := w1) HGS.out]
          exact HCELLS.out k _ (strsB_at P k hkP)
        rw [Nat.zero_add] at hc1
        obtain ⟨p, hp⟩ : ∃ p, P[k] = p := ⟨_, rfl⟩
        have HPK := hid hp
        have HV : Hid (valsZ (P.take (k + 1)) = valsZ (P.take k) ++ [valC p]) := hid (by rw [valsZ_step P k hkP, hp])
        have HFAIL : Hid (p.length ≠ 16 → rdz s.data.toList = ([], false)) := hid (fun h => by rw [HR.out, if_neg (by
          intro h2
          have := okZ_no hkP (by rw [hp]; unfold okC; simp [h])
          rw [this] at h2
          exact absurd h2.2 (by decide))])
        rw [hp] at hc1
        obtain ⟨t, ht⟩ : ∃ t : ByteArray, (⟨p.toArray⟩ : ByteArray) = t := ⟨_, rfl⟩
        have hpt : t.data.toList = p := by rw [← ht]
        rw [ht] at hc1
        clear hp ht
        by_cases h8 : t.size = 16
        · have HP8 : Hid (p.length = 16) := hid (by rw [← hpt]; exact h8)
          by_cases h256 : k = 256
          · have HRN : Hid (rdz s.data.toList = ([], false)) := hid (by rw [HR.out, if_neg (by intro h; have := h.1; have := HM.out; omega)])
            subst h256
            clear hpt
            go_wp2_with fail
            go_ret2
            exact ⟨_, by rw [HRN.out]; rfl, by rw [HRN.out]; exact PkZ.nil _ _, HBEL.out⟩
          · have hk2 : ((k : Int) == 256) = false := by simp; omega
            have hx1 : (t.extract 0 8).data.toList = p.take 8 := by rw [Dec.extract_all, hpt, List.drop_zero]
            have hx2 : (t.extract 8 16).data.toList = p.drop 8 := by
              rw [Dec.extract_all, hpt, List.take_of_length_le (by rw [← hpt]; exact Nat.le_of_eq h8)]
            have hs1 : (t.extract 0 8).size = 8 := by rw [ByteArray.size_extract, h8]; decide
            have hs2 : (t.extract 8 16).size = 8 := by rw [ByteArray.size_extract, h8]; decide
            have hrd1 := fun w' h => readHex (t.extract 0 8) hs1 w' h
            have hrd2 := fun w' h => readHex (t.extract 8 16) hs2 w' h
            rw [hx1] at hrd1
            rw [hx2] at hrd2
            have HVAL : Hid (valC p = (rd (p.take 8), rd (p.drop 8))) := hid rfl
            obtain ⟨t1, ht1⟩ : ∃ t1, t.extract 0 8 = t1 := ⟨_, rfl⟩
            obtain ⟨t2, ht2⟩ : ∃ t2, t.extract 8 16 = t2 := ⟨_, rfl⟩
            have ht2' : t.extract 8 t.size = t2 := by rw [h8]; exact ht2
            rw [ht1] at hrd1
            rw [ht2] at hrd2
            obtain ⟨r1, hr1⟩ : ∃ r, rd (p.take 8) = r := ⟨_, rfl⟩
            obtain ⟨r2, hr2⟩ : ∃ r, rd (p.drop 8) = r := ⟨_, rfl⟩
            rw [hr1] at hrd1
            rw [hr2] at hrd2
            rw [hr1, hr2] at HVAL
            rw [HVAL.out] at HV
            have HRD1 := hid hrd1
            have HRD2 := hid hrd2
            clear hpt hrd1 hrd2 hr1 hr2 hx1 hx2 hs1 hs2
            go_wp2_with fail
            refine wp_region_noPanic ?_
            refine wp_region_held_drew (S := fun w' => Below w.heap.size w w') (by kernel_rfl) HBEL.out.drew (fun hHeld => ?_)
            refine wpAnyH_take (i := 0) (v := ?v0) rfl (by kernel_rfl) (by kernel_rfl) (by kernel_rfl) (fun _ _ _ h => h) (Or.inl ⟨by kernel_rfl, ?hy0⟩) (by assumption) ?rest0
            case hy0 => (intro w hSw; (try dsimp only at hSw); go_simp; try with_reducible rfl)
            case rest0 =>
            try simp only [Act.put, List.setIfInBounds_toArray, List.set_cons_zero, List.set_cons_succ]
            refine wpAnyH_take (i := 1) (v := ?v1) rfl (by kernel_rfl) (by kernel_rfl) (by kernel_rfl) (fun _ _ _ h => h) (Or.inl ⟨by kernel_rfl, ?hy1⟩) (by assumption) ?rest1
            case hy1 => (intro w hSw; (try dsimp only at hSw); go_simp; try with_reducible rfl)
            case rest1 =>
            try simp only [Act.put, List.setIfInBounds_toArray, List.set_cons_zero, List.set_cons_succ]
            refine wpAnyH_take (i := 2) (v := ?v2) rfl (by kernel_rfl) (by kernel_rfl) (by kernel_rfl) (fun _ _ _ h => h) (Or.inl ⟨by kernel_rfl, ?hy2⟩) (by assumption) ?rest2
            case hy2 => (intro w hSw; (try dsimp only at hSw); go_simp; try with_reducible rfl)
            case rest2 =>
            try simp only [Act.put, List.setIfInBounds_toArray, List.set_cons_zero, List.set_cons_succ]
            refine wpAnyH_take (i := 4) (v := ?v4) rfl (by kernel_rfl) (by kernel_rfl) (by kernel_rfl) (fun _ _ _ h => h) (Or.inl ⟨by kernel_rfl, ?hy4⟩) (by assumption) ?rest4
            case hy4 => (intro w hSw; (try dsimp only at hSw); go_simp; try with_reducible rfl)
            case rest4 =>
            try simp only [Act.put, List.setIfInBounds_toArray, List.set_cons_zero, List.set_cons_succ]
            refine wpAnyH_take (i := 5) (v := ?v5) rfl (by kernel_rfl) (by kernel_rfl) (by kernel_rfl) (fun _ _ _ h => h) (Or.inl ⟨by kernel_rfl, ?hy5⟩) (by assumption) ?rest5
            case hy5 => (intro w hSw; (try dsimp only at hSw); go_simp; try with_reducible rfl)
            case rest5 =>
            try simp only [Act.put, List.setIfInBounds_toArray, List.set_cons_zero, List.set_cons_succ]
            refine wpAnyH_ready (rs := [3]) (by kernel_rfl) (by simp) ?_
            refine AllReadyH.cons rfl (fun K hK => ?_) AllReadyH.nil
            go_simp
            go_at_call 39
            refine Calls.mono (HRD1.out _ (HE1.out.on (below_to HBEL.out (Below.refl wr.heap.size wr).drew))) ?_
            rintro e w2 ⟨rfl, -, hb2⟩
            have Y1 := hid (below_to (Below.refl wr.heap.size wr).drew hb2)
            clear hb2
            try (go_wp2_with fail)
            refine hK.out _ _ (below_to HBEL.out Y1.out) (fun hHeld => ?_)
            clear hK K
            try simp only [Act.put, List.setIfInBounds_toArray, List.set_cons_zero, List.set_cons_succ]
            refine wpAnyH_ready (rs := [6]) (by kernel_rfl) (by simp) ?_
            refine AllReadyH.cons rfl (fun K hK => ?_) AllReadyH.nil
            go_simp
            go_at_call 39
            refine Calls.mono (HRD2.out _ (HE1.out.on (below_to HBEL.out Y1.out))) ?_
            rintro e w3 ⟨rfl, -, hb2⟩
            have Y2 := hid (below_to Y1.out hb2)
            clear hb2
            try (go_wp2_with fail)
            refine hK.out _ _ (below_to HBEL.out Y2.out) (fun hHeld => ?_)
            clear hK K
            try simp only [Act.put, List.setIfInBounds_toArray, List.set_cons_zero, List.set_cons_succ]
            refine wpAnyH_take (i := 7) (v := ?v7) rfl (by kernel_rfl) (by kernel_rfl) (by kernel_rfl) (fun _ _ _ h => h) (Or.inl ⟨by kernel_rfl, ?hy7⟩) (by assumption) ?rest7
            case hy7 => (intro w hSw; (try dsimp only at hSw); go_simp; try with_reducible rfl)
            case rest7 =>
            try simp only [Act.put, List.setIfInBounds_toArray, List.set_cons_zero, List.set_cons_succ]
            refine wpAnyH_ready (rs := [8]) (by kernel_rfl) (by simp) ?_
            refine AllReadyH.cons rfl (fun K hK => ?_) AllReadyH.nil
            go_simp
            refine hK.out _ _ ((below_to HBEL.out Y2.out).alloc (Nat.le_trans HBEL.out.size Y2.out.size) _) (fun hHeld => ?_)
            clear hK K
            try simp only [Act.put, List.setIfInBounds_toArray, List.set_cons_zero, List.set_cons_succ]
            refine wpAnyH_ready (rs := [9]) (by kernel_rfl) (by simp) ?_
            refine AllReadyH.cons rfl (fun K hK => ?_) AllReadyH.nil
            refine step_snocZ rfl (.tmp 25) (.tmp 33) rfl w.heap.size (Nat.le_trans HBEL.out.size Y2.out.size) (r1, r2) (valsZ (P.take k)) _ (by unfold valsZ; rw [List.length_map, List.length_take]; omega) rfl rfl (HOWN.out.below Y2.out) ?_
            intro v' w4 ho1 hb3 hkeep
            have HO1 := hid ho1
            have HB3 := hid ((below_to HBEL.out Y2.out).trans hb3)
            have HGL3 := hid (Nat.lt_of_lt_of_le HGL.out Y2.out.size)
            have HK := hid (hkeep g HGL3.out HOB.out)
            have HGG := hid ((Y2.out.block g HGL.out).trans HGS.out)
            have HS3 := hid (Nat.lt_of_lt_of_le HGL3.out hb3.size)
            clear ho1 hb3 hkeep
            refine hK.out _ _ HB3.out (fun hHeld => ?_)
            clear hK K
            try simp only [Act.put, List.setIfInBounds_toArray, List.set_cons_zero, List.set_cons_succ]
            refine wpAnyH_take (i := 10) (v := ?v10) rfl (by kernel_rfl) (by kernel_rfl) (by kernel_rfl) (fun _ _ _ h => h) (Or.inl ⟨by kernel_rfl, ?hy10⟩) (by assumption) ?rest10
            case hy10 => (intro w hSw; (try dsimp only at hSw); go_simp; try with_reducible rfl)
            case rest10 =>
            try simp only [Act.put, List.setIfInBounds_toArray, List.set_cons_zero, List.set_cons_succ]
            refine wpAnyH_done (by kernel_rfl) ?_ _
            refine NoPanic.normal ?_
            clear hHeld
            go_wp2_with fail
            go_roundw
            case rel => exact ⟨k + 1, by omega, by omega, by go_num, by rw [HV.out]; exact HO1.out, HK.out.2, HS3.out, HK.out.1.trans HGG.out, fun j hjP hj => by
              by_cases e : j = k
              · subst e; rw [HPK.out]; exact HP8.out
              · exact HALL.out j hjP (by omega), HB3.out⟩
            case measure => simp [intOf]; omega
        · have hn8 : ((t.size : Int) != 16) = true := by
            simp
            omega
          have HRN := hid (HFAIL.out (by rw [← hpt]; exact h8))
          clear hpt
          go_wp2_with fail
          go_ret2
          exact ⟨_, by rw [HRN.out]; rfl, by rw [HRN.out]; exact PkZ.nil _ _, HBEL.out⟩
      · obtain rfl : k = m := by omega
        have h8 : ∀ p ∈ P, p.length = 16 := by
          intro p hp
          obtain ⟨j, hj, rfl⟩ := List.mem_iff_getElem.1 hp
          exact HALL.out j hj (by rw [← HM.out]; exact hj)
        have hiff := HIFF.out h8
        have HFIN : Hid (OwnZ w.heap.size wr (.slice (some ⟨g2, 0, none⟩) k cap2) (valsZ P)) := hid (by have := HOWN.out; rwa [List.take_of_length_le (by rw [HM.out]; exact Nat.le_refl _)] at this)
        have haf : AllZ (valsZ P) := by
          intro j hj
          have hjP : j < P.length := by simpa [valsZ] using hj
          have e : (valsZ P).getD j (0, 0) = valC P[j] := by
            rw [List.getD_eq_getElem?_getD]
            unfold valsZ
            rw [List.getElem?_map, List.getElem?_eq_getElem hjP]
            rfl
          have hl := h8 _ (List.getElem_mem hjP)
          rw [e]
          exact ⟨rd_lt (by rw [List.length_take]; omega), rd_lt (by rw [List.length_drop]; omega)⟩
        have HIM := hid (imComplexText _ k cap2 (valsZ P) wr HFIN.out.pk.slV.2 haf (by omega) ((HBEL.out.cell (p := ⟨6, 15, none⟩) HTB.out).trans HTZ.out))
        have hnt : ntxC (valsZ P) k = (txtL (hexsC (valsZ P)), true) := by unfold ntxC; rw [if_pos hk256]
        rw [hnt] at HIM
        obtain ⟨t, ht⟩ : ∃ t : ByteArray, (⟨(txtL (hexsC (valsZ P))).toArray⟩ : ByteArray) = t := ⟨_, rfl⟩
        have htl : t.data.toList = txtL (hexsC (valsZ P)) := by rw [← ht]
        have HIM2 : Hid (Calls Tryd.prog 42 #[.slice (some ⟨g2, 0, none⟩) k cap2] wr fun e w' => e = .returned (.tuple #[.string t, .bool true]) ∧ Below wr.heap.size wr w') := hid (by have := HIM.out; rw [← ht]; exact this)
        by_cases heq : t = s
        · have HRY : Hid (rdz s.data.toList = (valsZ P, true)) := hid (by rw [HR.out, if_pos ⟨by rw [HM.out]; exact hk256, hiff.1 (by rw [← htl, heq])⟩])
          have hbe := beq_yes heq
          clear HIM hnt ht htl haf h8 hiff heq
          go_wp2_with fail
          refine HIM2.out.mono ?_
          rintro e w2 ⟨rfl, hb⟩
          have HF2 := hid (HFIN.out.below hb)
          have HB2 := hid (below_to HBEL.out hb)
          clear hb
          go_wp2_with fail
          go_ret2
          exact ⟨_, by rw [HRY.out]; rfl, by rw [HRY.out]; exact HF2.out.pk, HB2.out⟩
        · have HRN : Hid (rdz s.data.toList = ([], false)) := hid (by
            rw [HR.out, if_neg]
            intro h
            have e := hiff.2 h.2
            rw [← htl] at e
            apply heq
            obtain ⟨⟨a⟩⟩ := t
            obtain ⟨⟨b⟩⟩ := s
            rw [show a = b from e])
          have hbe := beq_no heq
          clear HIM hnt ht htl haf h8 hiff heq
          go_wp2_with fail
          refine HIM2.out.mono ?_
          rintro e w2 ⟨rfl, hb⟩
          have HB2 := hid (below_to HBEL.out hb)
          clear hb
          go_wp2_with fail
          go_ret2
          exact ⟨_, by rw [HRN.out]; rfl, by rw [HRN.out]; exact PkZ.nil _ _, HB2.out⟩
end Walk
end Go.Proofs.YtimablpgikebgaaDoor
