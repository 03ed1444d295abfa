/- Complex numbers read: the reference's reader. No condition. -/
import Derived.Test.YtimablpgikebgaaDoorVz1
namespace Go.Proofs.YtimablpgikebgaaDoor
open Go.RowKit Sl
set_option linter.unusedVariables false
set_option linter.unusedSimpArgs false
namespace Walk
def cz (x : Nat × Nat) : Value := .complex .f32 x.1 x.2
theorem infoZ : (Tryd.prog.info? 55).map (fun i => (i.zero, i.size, i.bytes)) = some (some (.complex .f32 0 0), 1, 8) := by kernel_rfl
def okC (p : List UInt8) : Bool := decide (p.length = 16) && (okP (p.take 8) && okP (p.drop 8))
def valC (p : List UInt8) : Nat × Nat := (rd (p.take 8), rd (p.drop 8))
/-- A list of numbers that the call made. -/
def OwnZ (B : Nat) (w : World) (v : Value) (l : List (Nat × Nat)) : Prop := ∃ g cap cur, v = .slice (some ⟨g, 0, none⟩) l.length cap ∧ B ≤ g ∧ w.heap[g]? = some (.cells cur 55 (0, 0)) ∧ l.length ≤ cap ∧ cap ≤ maxLen ∧ cur.size = cap ∧ cur.toList.take l.length = l.map (cz)
theorem OwnZ.below {B : Nat} {w w' : World} {v : Value} {l : List (Nat × Nat)} (h : OwnZ B w v l) (b : Below w.heap.size w w') : OwnZ B w' v l := by
  obtain ⟨g, cap, cur, hv, h1, hg, hr⟩ := h
  exact ⟨g, cap, cur, hv, h1, (b.block g (Array.getElem?_eq_some_iff.1 hg).1).trans hg, hr⟩
theorem OwnZ.row {B : Nat} {w : World} {v : Value} {l : List (Nat × Nat)} (h : OwnZ B w v l) : w.ownsRow B 55 1 v l.length (l.map (cz)) := by
  obtain ⟨g, cap, cur, hv, h1, hg, h2, h3, h4, h5⟩ := h
  exact ⟨by simp, .inr ⟨g, cap, cur, hv, h1, hg, h2, h3, by omega, by rw [Nat.mul_one]; exact h5⟩⟩
theorem OwnZ.start (w : World) : OwnZ w.heap.size (w.alloc (.cells #[] 55)) (.slice (some ⟨w.heap.size, 0, none⟩) 0 0) [] :=
  ⟨w.heap.size, 0, #[], rfl, Nat.le_refl _, (MapKept.heap_alloc w _).1, Nat.le_refl _, Nat.zero_le _, rfl, rfl⟩
/-- 'append(out, y)'. -/
theorem wpList_snocZ {wq : World} {ops : Array Oper} {rest : List Oper} {o : Oper} {a : Act} {Q : Exit → Act → World → Prop} (hgd : o.guard = none) (s x : Operand)
    (ho : o.op = .call { callee := .builtin .append, args := #[s, x], argTypes := #[33, 33] }) (B : Nat) (hB : B ≤ wq.heap.size) (y : Nat × Nat) (l : List (Nat × Nat)) (v : Value) (hl : l.length ≤ 2000000)
    (hs : a.eval s = v) (hx : a.eval x = .slice (some ⟨wq.heap.size, 0, none⟩) 1 1) (hown : OwnZ B wq v l)
    (h : ∀ v' w1, OwnZ B w1 v' (l ++ [y]) → Below B wq w1 → (∀ b, b < wq.heap.size → v.ownBlock ≠ some b → w1.heap[b]? = wq.heap[b]? ∧ v'.ownBlock ≠ some b) → wpList Tryd.prog ops Q rest (a.put o.dst v') w1) : wpList Tryd.prog ops Q (o :: rest) a (wq.alloc (.cells #[.complex .f32 y.1 y.2] 55)) := by
  obtain ⟨i0, hi, hz0, hz1, hz2⟩ := info_parts infoZ
  have hrow := (hown.below (Below.alloc (Below.refl wq.heap.size wq) (Nat.le_refl _) (.cells #[.complex .f32 y.1 y.2] 55))).row
  refine wpList_append_own_at _ hgd s x 33 ho B 55 i0 (.complex .f32 0 0) 1 8 Tryd.underlying33 hi hz0 hz1 hz2 rfl (by decide) v l.length (l.map (cz)) hs hrow ⟨wq.heap.size, 0, none⟩ 1 1 [.complex .f32 y.1 y.2] hx rfl ?_ ?_ (by unfold maxLen; omega) (by omega) (by simp; omega) ?_
  · intro j u hj
    cases j with
    | zero =>
      simp at hj
      subst hj
      rw [Addr.add_lit]
      unfold World.cell?
      simp only [(MapKept.heap_alloc wq (.cells #[.complex .f32 y.1 y.2] 55)).1]
      rfl
    | succ j => simp at hj
  · intro u hu
    simp at hu
    subst hu
    rfl
  · intro v' w1 hown1 hgrow _ hat
    have hb : Below B wq w1 := ((Below.refl B wq).alloc hB _).grown hgrow (by simp; omega) (fun q hq => (hrow.lt q hq).1)
    refine h v' w1 ?_ hb ?_
    · rcases hown1.2 with ⟨-, h0⟩ | ⟨g', cap', cur, rfl, hbg, hg, h2, h3, h4, h5⟩
      · simp at h0
      · exact ⟨g', cap', cur, by simp, hbg, hg, by simpa using h2, h3, by omega, by simpa [cz] using h5⟩
    · intro b hbl hne
      refine ⟨(hgrow.block b (by simp; omega) (fun e => hne e.symm)).trans ((Below.alloc (Below.refl wq.heap.size wq) (Nat.le_refl _) (.cells #[.complex .f32 y.1 y.2] 55)).block b hbl), fun e => ?_⟩
      rcases hat with hat | hat
      · exact hne (hat.symm.trans e)
      · rw [hat] at e
        simp at e
        omega
/-- A row of numbers, its own or none. -/
def PkZ (B : Nat) (w : World) (v : Value) (zs : List (Nat × Nat)) : Prop := ∃ a cap, v = .slice a zs.length cap ∧ (0 < zs.length → ∃ g cur, a = some ⟨g, 0, none⟩ ∧ B ≤ g ∧ w.heap[g]? = some (.cells cur 55 (0, 0)) ∧ zs.length ≤ cur.size ∧ cur.toList.take zs.length = zs.map (cz))
theorem OwnZ.pk {B : Nat} {w : World} {v : Value} {l : List (Nat × Nat)} (h : OwnZ B w v l) : PkZ B w v l := by
  obtain ⟨g, cap, cur, hv, h1, hg, h2, h3, h4, h5⟩ := h
  exact ⟨_, cap, hv, fun _ => ⟨g, cur, rfl, h1, hg, by omega, h5⟩⟩
theorem PkZ.nil (B : Nat) (w : World) : PkZ B w (.slice none 0 0) [] := ⟨none, 0, rfl, fun h => absurd h (by decide)⟩
/-- What reading a list of numbers gives. -/
def valsZ (L : List (List UInt8)) : List (Nat × Nat) := L.map valC
def rdz (l : List UInt8) : List (Nat × Nat) × Bool :=
  if l = [110, 111, 110, 101] then ([], true)
  else if (Dec.cutL l).length ≤ 256 ∧ (Dec.cutL l).all okC = true then (valsZ (Dec.cutL l), true) else ([], false)
theorem okZ_no {L : List (List UInt8)} {k : Nat} (hk : k < L.length) (h : okC L[k] = false) : L.all okC = false := by
  cases ho : L.all okC with
  | false => rfl
  | true =>
    rw [List.all_eq_true] at ho
    have := ho _ (List.getElem_mem hk)
    rw [h] at this
    cases this
theorem okZ_of {L : List (List UInt8)} (h : ∀ k, (hk : k < L.length) → okC L[k] = true) : L.all okC = true := by
  rw [List.all_eq_true]
  intro x hx
  obtain ⟨k, hk, rfl⟩ := List.mem_iff_getElem.1 hx
  exact h k hk
theorem valsZ_step (L : List (List UInt8)) (k : Nat) (hk : k < L.length) : valsZ (L.take (k + 1)) = valsZ (L.take k) ++ [valC L[k]] := by
  unfold valsZ
  rw [List.take_succ_eq_append_getElem hk, List.map_append]
  rfl
def RetZ (l : List UInt8) (w : World) (e : Ending) (w' : World) : Prop := ∃ v, e = .returned (.tuple #[v, .bool (rdz l).2]) ∧ PkZ w.heap.size w' v (rdz l).1 ∧ Below w.heap.size w w'
set_option maxRecDepth 100000 in
set_option maxHeartbeats 4000000 in
theorem l01CRead (s : ByteArray) (hs : s.size ≤ 1048576) (w : World) : Calls Tryd.prog 41 #[.string s] w fun e w' => RetZ s.data.toList w e w' := by
  by_cases hnone : s.data.toList = [110, 111, 110, 101]
  · have HR : Hid (rdz s.data.toList = ([], true)) := hid (by unfold rdz; rw [if_pos hnone])
    have hsn := none_yes hnone
    clear hnone
    subst hsn
    go_enter Tryd.func41, Tryd.ntmps41
    go_wp2_with fail
    go_ret2
    exact ⟨_, by rw [HR.out]; rfl, by rw [HR.out]; exact (OwnZ.start w).pk, Below.alloc (Below.refl _ _) (Nat.le_refl _) _⟩
  · have hne := none_no hnone
    obtain ⟨P, hP⟩ : ∃ P, Dec.cutL s.data.toList = P := ⟨_, rfl⟩
    have HR : Hid (rdz s.data.toList = if P.length ≤ 256 ∧ P.all okC = true then (valsZ P, true) else ([], false)) := hid (by unfold rdz; rw [if_neg hnone, hP])
    have HCUT := l01Cut s hs
    rw [hP] at HCUT
    have HC := hid HCUT
    clear hnone HCUT hP
    go_enter Tryd.func41, Tryd.ntmps41
    go_wp2_with fail
    refine (HC.out _).mono ?_
    rintro e w1 ⟨v1, rfl, hown1, hb1⟩
    have HB1 := hid (Below.trans (Below.alloc (Below.refl _ _) (Nat.le_refl _) _) (hb1.mono (by simp)) : Below w.heap.size w w1)
    have hst : OwnZ w.heap.size w1 (.slice (some ⟨w.heap.size, 0, none⟩) 0 0) [] := (OwnZ.start w).below hb1
    have HST := hid hst
    obtain ⟨g, cap, hv1, hg1⟩ := hown1.lt
    subst hv1
    obtain ⟨-, -, hcells⟩ := hown1.cells
    have HNE : Hid (w.heap.size ≠ g) := hid (by
      obtain ⟨g', cap', cur', hv', hg', -⟩ := hown1
      injection hv' with e1 e2 e3
      injection e1 with e1
      injection e1 with e1
      subst e1
      simp at hg'
      omega)
    have HCELLS := hid hcells
    have hlen : (strsB P).length = P.length := strsB_length P
    have HG1 := hid hg1
    rw [hlen]
    clear hb1 hst hown1 hcells hg1 hlen
    obtain ⟨m, hm⟩ : ∃ m, P.length = m := ⟨_, rfl⟩
    have HM := hid hm
    rw [hm]
    clear hm
    by_cases h256 : 256 < m
    · have HRN : Hid (rdz s.data.toList = ([], false)) := hid (by rw [HR.out, if_neg (by intro h; have := h.1; have := HM.out; omega)])
      go_wp2_with fail
      go_ret2
      exact ⟨_, by rw [HRN.out]; rfl, by rw [HRN.out]; exact PkZ.nil _ _, HB1.out⟩
    · go_wp2_with fail
      go_loopw [4, 6] (fun v i wr => ∃ (k : Nat), k ≤ m ∧ i = .int .i64 k ∧ OwnZ w.heap.size wr v (valsZ (P.take k)) ∧ v.ownBlock ≠ some g ∧ g < wr.heap.size ∧ wr.heap[g]? = w1.heap[g]? ∧ (∀ j, (hj : j < P.length) → j < k → okC P[j] = true) ∧ Below w.heap.size w wr) (fun _ i _ => m - (intOf i).toNat)
      case atStart => exact ⟨0, Nat.zero_le _, rfl, HST.out, by simpa [Value.ownBlock] using HNE.out, HG1.out, rfl, fun j _ hj => absurd hj (Nat.not_lt_zero _), HB1.out⟩
      case round =>
        obtain ⟨k, hk, rfl, hown, hob, hgl, hgs, hall, hbel⟩ := hrel
        have HOWN := hid hown
        have HOB := hid hob
        have HGL := hid hgl
        have HGS := hid hgs
        have HALL := hid hall
        have HBEL := hid hbel
        clear hown hob hgl hgs hall hbel
        by_cases hlt : k < m
        · have hkP : k < P.length := by rw [HM.out]; exact hlt
          have hc1 : wr.cell? ⟨g, 0 + k, none⟩ = some (.string ⟨P[k].toArray⟩) := by
            rw [World.cell?_of_block (w := w1) HGS.out]
            exact HCELLS.out k _ (strsB_at P k hkP)
          rw [Nat.zero_add] at hc1
          obtain ⟨p, hp⟩ : ∃ p, P[k] = p := ⟨_, rfl⟩
          have HV : Hid (valsZ (P.take (k + 1)) = valsZ (P.take k) ++ [valC p]) := hid (by rw [valsZ_step P k hkP, hp])
          have HFAIL : Hid (okC p = false → rdz s.data.toList = ([], false)) := hid (fun h => by rw [HR.out, if_neg (by intro h2; have := okZ_no hkP (by rw [hp]; exact h); rw [this] at h2; exact absurd h2.2 (by decide))])
          have HOKK : Hid (okC p = true → okC P[k] = true) := hid (fun h => by rw [hp]; exact h)
          rw [hp] at hc1
          obtain ⟨t, ht⟩ : ∃ t : ByteArray, (⟨p.toArray⟩ : ByteArray) = t := ⟨_, rfl⟩
          have hpt : t.data.toList = p := by rw [← ht]
          rw [ht] at hc1
          clear hp ht
          by_cases h8 : t.size = 16
          · have hx1 : (t.extract 0 8).data.toList = p.take 8 := by rw [Dec.extract_all, hpt, List.drop_zero]
            have hx2 : (t.extract 8 16).data.toList = p.drop 8 := by
              rw [Dec.extract_all, hpt, List.take_of_length_le (by rw [← hpt]; exact Nat.le_of_eq h8)]
            have hs1 : (t.extract 0 8).size = 8 := by rw [ByteArray.size_extract, h8]; decide
            have hs2 : (t.extract 8 16).size = 8 := by rw [ByteArray.size_extract, h8]; decide
            have HL1 := fun w => l01Digits (t.extract 0 8) hs1 w
            have HL2 := fun w => l01Digits (t.extract 8 16) hs2 w
            rw [hx1] at HL1
            rw [hx2] at HL2
            have HP16 : Hid (p.length = 16) := hid (by rw [← hpt]; exact h8)
            obtain ⟨t1, ht1⟩ : ∃ t1, t.extract 0 8 = t1 := ⟨_, rfl⟩
            obtain ⟨t2, ht2⟩ : ∃ t2, t.extract 8 16 = t2 := ⟨_, rfl⟩
            have hsz : (8 : Int) ≤ t.size := by omega
            rw [ht1] at HL1
            rw [ht2] at HL2
            have H1 := hid HL1
            have H2 := hid HL2
            have ht2' : t.extract 8 t.size = t2 := by rw [h8]; exact ht2
            have HVC : Hid (okP (p.take 8) = true → okP (p.drop 8) = true → okC p = true ∧ valC p = (dg (p.take 8), dg (p.drop 8))) := hid (fun e1 e2 => ⟨by unfold okC; rw [HP16.out, e1, e2]; rfl, by unfold valC dg; rw [if_pos e1, if_pos e2]⟩)
            have HVN : Hid (okP (p.take 8) = false ∨ okP (p.drop 8) = false → okC p = false) := hid (fun h => by
              unfold okC
              rcases h with h | h <;> rw [h] <;> simp)
            obtain ⟨x1, hx1'⟩ : ∃ x, dg (p.take 8) = x := ⟨_, rfl⟩
            obtain ⟨x2, hx2'⟩ : ∃ x, dg (p.drop 8) = x := ⟨_, rfl⟩
            obtain ⟨d1, hd1'⟩ : ∃ x, okP (p.take 8) = x := ⟨_, rfl⟩
            obtain ⟨d2, hd2'⟩ : ∃ x, okP (p.drop 8) = x := ⟨_, rfl⟩
            rw [hx1', hd1'] at H1
            rw [hx2', hd2'] at H2
            rw [hx1', hx2', hd1', hd2'] at HVC
            rw [hd1', hd2'] at HVN
            clear HL1 HL2 hx1 hx2 hs1 hs2 hpt hx1' hx2' hd1' hd2'
            go_wp2_with fail
            refine (H1.out _).mono ?_
            rintro e w2 ⟨rfl, hw2⟩
            subst hw2
            go_wp2_with fail
            refine (H2.out _).mono ?_
            rintro e w3 ⟨rfl, hw3⟩
            subst hw3
            cases d1 with
            | false =>
              have HRN := hid (HFAIL.out (HVN.out (.inl rfl)))
              go_wp2_with fail
              go_ret2
              exact ⟨_, by rw [HRN.out]; rfl, by rw [HRN.out]; exact PkZ.nil _ _, HBEL.out⟩
            | true =>
              cases d2 with
              | false =>
                have HRN := hid (HFAIL.out (HVN.out (.inr rfl)))
                go_wp2_with fail
                go_ret2
                exact ⟨_, by rw [HRN.out]; rfl, by rw [HRN.out]; exact PkZ.nil _ _, HBEL.out⟩
              | true =>
                have HOK2 := hid (HOKK.out (HVC.out rfl rfl).1)
                have HVV := hid (HVC.out rfl rfl).2
                go_wp2_with (at_builtin; refine wpList_snocZ rfl (.tmp 56) (.tmp 60) rfl w.heap.size HBEL.out.size (x1, x2) (valsZ (P.take k)) _ (by unfold valsZ; rw [List.length_map, List.length_take]; omega) rfl rfl HOWN.out ?_; intro v' w3 ho1 hb3 hkeep; have HO1 := hid ho1; have HB3 := hid (HBEL.out.trans hb3); have HK := hid (hkeep g HGL.out HOB.out); have HS3 := hid (Nat.lt_of_lt_of_le HGL.out hb3.size); clear ho1 hb3 hkeep)
                go_roundw
                case rel => exact ⟨k + 1, by omega, by go_num, by rw [HV.out, HVV.out]; exact HO1.out, HK.out.2, HS3.out, HK.out.1.trans HGS.out, fun j hjP hj => by
                  by_cases e : j = k
                  · subst e; exact HOK2.out
                  · exact HALL.out j hjP (by omega), HB3.out⟩
                case measure => simp [intOf]; omega
          · have hn8 : ((t.size : Int) != 16) = true := by
              simp
              omega
            have HRN := hid (HFAIL.out (by unfold okC; have : p.length ≠ 16 := by rw [← hpt]; exact h8
                                           simp [this]))
            go_wp2_with fail
            go_ret2
            exact ⟨_, by rw [HRN.out]; rfl, by rw [HRN.out]; exact PkZ.nil _ _, HBEL.out⟩
        · obtain rfl : k = m := by omega
          have HRY : Hid (rdz s.data.toList = (valsZ P, true)) := hid (by rw [HR.out, if_pos ⟨by rw [HM.out]; omega, okZ_of (fun j hj => HALL.out j hj (by rw [← HM.out]; exact hj))⟩])
          have HFIN : Hid (PkZ w.heap.size wr _ (valsZ P)) := hid (by have := HOWN.out.pk; rwa [List.take_of_length_le (by rw [HM.out]; exact Nat.le_refl _)] at this)
          go_wp2_with fail
          go_ret2
          exact ⟨_, by rw [HRY.out]; rfl, by rw [HRY.out]; exact HFIN.out, HBEL.out⟩
end Walk
end Go.Proofs.YtimablpgikebgaaDoor
