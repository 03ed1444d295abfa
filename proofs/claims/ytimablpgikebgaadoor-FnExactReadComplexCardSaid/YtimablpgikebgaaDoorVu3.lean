/- Numbers read: the reference's reader. No condition. -/
import Derived.Test.YtimablpgikebgaaDoorPu
namespace Go.Proofs.YtimablpgikebgaaDoor
open Go.RowKit Sl
set_option linter.unusedVariables false
set_option linter.unusedSimpArgs false
namespace Walk
/-- A list of numbers that the call made. -/
def OwnF (B : Nat) (w : World) (v : Value) (l : List Nat) : Prop := ∃ g cap cur, v = .slice (some ⟨g, 0, none⟩) l.length cap ∧ B ≤ g ∧ w.heap[g]? = some (.cells cur 51 (0, 0)) ∧ l.length ≤ cap ∧ cap ≤ maxLen ∧ cur.size = cap ∧ cur.toList.take l.length = l.map (Value.float .f32)
theorem OwnF.below {B : Nat} {w w' : World} {v : Value} {l : List Nat} (h : OwnF B w v l) (b : Below w.heap.size w w') : OwnF B w' v l := by
  obtain ⟨g, cap, cur, hv, h1, hg, hr⟩ := h
  exact ⟨g, cap, cur, hv, h1, (b.block g (Array.getElem?_eq_some_iff.1 hg).1).trans hg, hr⟩
theorem OwnF.row {B : Nat} {w : World} {v : Value} {l : List Nat} (h : OwnF B w v l) : w.ownsRow B 51 1 v l.length (l.map (Value.float .f32)) := by
  obtain ⟨g, cap, cur, hv, h1, hg, h2, h3, h4, h5⟩ := h
  exact ⟨by simp, .inr ⟨g, cap, cur, hv, h1, hg, h2, h3, by omega, by rw [Nat.mul_one]; exact h5⟩⟩
theorem OwnF.start (w : World) : OwnF w.heap.size (w.alloc (.cells #[] 51)) (.slice (some ⟨w.heap.size, 0, none⟩) 0 0) [] :=
  ⟨w.heap.size, 0, #[], rfl, Nat.le_refl _, (MapKept.heap_alloc w _).1, Nat.le_refl _, Nat.zero_le _, rfl, rfl⟩
/-- 'append(out, y)'. -/
theorem wpList_snocF {wq : World} {ops : Array Oper} {rest : List Oper} {o : Oper} {a : Act} {Q : Exit → Act → World → Prop} (hgd : o.guard = none) (s x : Operand)
    (ho : o.op = .call { callee := .builtin .append, args := #[s, x], argTypes := #[28, 28] }) (B : Nat) (hB : B ≤ wq.heap.size) (y : Nat) (l : List Nat) (v : Value) (hl : l.length ≤ 2000000)
    (hs : a.eval s = v) (hx : a.eval x = .slice (some ⟨wq.heap.size, 0, none⟩) 1 1) (hown : OwnF B wq v l)
    (h : ∀ v' w1, OwnF B w1 v' (l ++ [y]) → Below B wq w1 → (∀ b, b < wq.heap.size → v.ownBlock ≠ some b → w1.heap[b]? = wq.heap[b]? ∧ v'.ownBlock ≠ some b) → wpList Tryd.prog ops Q rest (a.put o.dst v') w1) : wpList Tryd.prog ops Q (o :: rest) a (wq.alloc (.cells #[.float .f32 y] 51)) := by
  obtain ⟨i0, hi, hz0, hz1, hz2⟩ := info_parts infoF
  have hrow := (hown.below (Below.alloc (Below.refl wq.heap.size wq) (Nat.le_refl _) (.cells #[.float .f32 y] 51))).row
  refine wpList_append_own_at _ hgd s x 28 ho B 51 i0 (.float .f32 0) 1 4 Tryd.underlying28 hi hz0 hz1 hz2 rfl (by decide) v l.length (l.map (Value.float .f32)) hs hrow ⟨wq.heap.size, 0, none⟩ 1 1 [.float .f32 y] hx rfl ?_ ?_ (by unfold maxLen; omega) (by omega) (by simp; omega) ?_
  · intro j u hj
    cases j with
    | zero =>
      simp at hj
      subst hj
      rw [Addr.add_lit]
      unfold World.cell?
      simp only [(MapKept.heap_alloc wq (.cells #[.float .f32 y] 51)).1]
      rfl
    | succ j => simp at hj
  · intro u hu
    simp at hu
    subst hu
    rfl
  · intro v' w1 hown1 hgrow _ hat
    have hb : Below B wq w1 := ((Below.refl B wq).alloc hB _).grown hgrow (by simp; omega) (fun q hq => (hrow.lt q hq).1)
    refine h v' w1 ?_ hb ?_
    · rcases hown1.2 with ⟨-, h0⟩ | ⟨g', cap', cur, rfl, hbg, hg, h2, h3, h4, h5⟩
      · simp at h0
      · exact ⟨g', cap', cur, by simp, hbg, hg, by simpa using h2, h3, by omega, by simpa using h5⟩
    · intro b hbl hne
      refine ⟨(hgrow.block b (by simp; omega) (fun e => hne e.symm)).trans ((Below.alloc (Below.refl wq.heap.size wq) (Nat.le_refl _) (.cells #[.float .f32 y] 51)).block b hbl), fun e => ?_⟩
      rcases hat with hat | hat
      · exact hne (hat.symm.trans e)
      · rw [hat] at e
        simp at e
        omega
/-- A row of numbers, its own or none. -/
def PkF (B : Nat) (w : World) (v : Value) (zs : List Nat) : Prop := ∃ a cap, v = .slice a zs.length cap ∧ (0 < zs.length → ∃ g cur, a = some ⟨g, 0, none⟩ ∧ B ≤ g ∧ w.heap[g]? = some (.cells cur 51 (0, 0)) ∧ zs.length ≤ cur.size ∧ cur.toList.take zs.length = zs.map (Value.float .f32))
theorem OwnF.pk {B : Nat} {w : World} {v : Value} {l : List Nat} (h : OwnF B w v l) : PkF B w v l := by
  obtain ⟨g, cap, cur, hv, h1, hg, h2, h3, h4, h5⟩ := h
  exact ⟨_, cap, hv, fun _ => ⟨g, cur, rfl, h1, hg, by omega, h5⟩⟩
theorem PkF.nil (B : Nat) (w : World) : PkF B w (.slice none 0 0) [] := ⟨none, 0, rfl, fun h => absurd h (by decide)⟩

theorem l01From (n : Nat) (hn : n < 4294967296) (w : World) : Calls Tryd.prog 58 #[.int .i64 (n : Int)] w fun e w' => e = .returned (.float .f32 n) ∧ w' = w := by
  have hfb := frombits
  have hwr : IntKind.u32.wrap (n : Int) = n := IntWalk.u32_in _ (by omega)
  clear hn
  go_enter Tryd.func58, Tryd.ntmps58
  go_wp2
  go_ret
  exact ⟨rfl, rfl⟩
/-- What reading a list of numbers gives. -/
def valsN (L : List (List UInt8)) : List Nat := L.map rd
def rdn (l : List UInt8) : List Nat × Bool :=
  if l = [110, 111, 110, 101] then ([], true)
  else if (Dec.cutL l).length ≤ 256 ∧ (Dec.cutL l).all okP = true then (valsN (Dec.cutL l), true) else ([], false)
theorem okN_no {L : List (List UInt8)} {k : Nat} (hk : k < L.length) (h : okP L[k] = false) : L.all okP = false := by
  cases ho : L.all okP with
  | false => rfl
  | true =>
    rw [List.all_eq_true] at ho
    have := ho _ (List.getElem_mem hk)
    rw [h] at this
    cases this
theorem okN_of {L : List (List UInt8)} (h : ∀ k, (hk : k < L.length) → okP L[k] = true) : L.all okP = true := by
  rw [List.all_eq_true]
  intro x hx
  obtain ⟨k, hk, rfl⟩ := List.mem_iff_getElem.1 hx
  exact h k hk
theorem valsN_step (L : List (List UInt8)) (k : Nat) (hk : k < L.length) : valsN (L.take (k + 1)) = valsN (L.take k) ++ [rd L[k]] := by
  unfold valsN
  rw [List.take_succ_eq_append_getElem hk, List.map_append]
  rfl
def RetN (l : List UInt8) (w : World) (e : Ending) (w' : World) : Prop := ∃ v, e = .returned (.tuple #[v, .bool (rdn l).2]) ∧ PkF w.heap.size w' v (rdn l).1 ∧ Below w.heap.size w w'
theorem low_iff (c : UInt8) : low16 c = true ↔ (48 ≤ (c.toNat : Int) ∧ (c.toNat : Int) ≤ 57) ∨ (97 ≤ (c.toNat : Int) ∧ (c.toNat : Int) ≤ 102) := by
  unfold low16
  simp
  omega
theorem hd_letter {c : UInt8} (h : 97 ≤ (c.toNat : Int) ∧ (c.toNat : Int) ≤ 102) : ((c.toNat : Int) - 97 + 10) = ((hd c : Nat) : Int) := by
  have := (low_hd ((low_iff c).2 (.inr h))).2.2
  rw [if_neg (by omega)] at this
  omega
set_option maxRecDepth 100000 in
set_option maxHeartbeats 4000000 in
theorem l01NRead (s : ByteArray) (hs : s.size ≤ 1048576) (w : World) : Calls Tryd.prog 37 #[.string s] w fun e w' => RetN s.data.toList w e w' := by
  by_cases hnone : s.data.toList = [110, 111, 110, 101]
  · have HR : Hid (rdn s.data.toList = ([], true)) := hid (by unfold rdn; rw [if_pos hnone])
    have hsn := none_yes hnone
    clear hnone
    subst hsn
    go_enter Tryd.func37, Tryd.ntmps37
    go_wp2_with fail
    go_ret2
    exact ⟨_, by rw [HR.out]; rfl, by rw [HR.out]; exact (OwnF.start w).pk, Below.alloc (Below.refl _ _) (Nat.le_refl _) _⟩
  · have hne := none_no hnone
    obtain ⟨P, hP⟩ : ∃ P, Dec.cutL s.data.toList = P := ⟨_, rfl⟩
    have HR : Hid (rdn s.data.toList = if P.length ≤ 256 ∧ P.all okP = true then (valsN P, true) else ([], false)) := hid (by unfold rdn; rw [if_neg hnone, hP])
    have HCUT := l01Cut s hs
    rw [hP] at HCUT
    have HC := hid HCUT
    clear hnone HCUT hP
    go_enter Tryd.func37, Tryd.ntmps37
    go_wp2_with fail
    refine (HC.out _).mono ?_
    rintro e w1 ⟨v1, rfl, hown1, hb1⟩
    have HB1 := hid (Below.trans (Below.alloc (Below.refl _ _) (Nat.le_refl _) _) (hb1.mono (by simp)) : Below w.heap.size w w1)
    have hst : OwnF w.heap.size w1 (.slice (some ⟨w.heap.size, 0, none⟩) 0 0) [] := (OwnF.start w).below hb1
    have HST := hid hst
    obtain ⟨g, cap, hv1, hg1⟩ := hown1.lt
    subst hv1
    obtain ⟨-, -, hcells⟩ := hown1.cells
    have HNE : Hid (w.heap.size ≠ g) := hid (by
      obtain ⟨g', cap', cur', hv', hg', -⟩ := hown1
      injection hv' with e1 e2 e3
      injection e1 with e1
      injection e1 with e1
      subst e1
      simp at hg'
      omega)
    have HCELLS := hid hcells
    have hlen : (strsB P).length = P.length := strsB_length P
    have HG1 := hid hg1
    rw [hlen]
    clear hb1 hst hown1 hcells hg1 hlen
    obtain ⟨m, hm⟩ : ∃ m, P.length = m := ⟨_, rfl⟩
    have HM := hid hm
    rw [hm]
    clear hm
    by_cases h256 : 256 < m
    · have HRN : Hid (rdn s.data.toList = ([], false)) := hid (by rw [HR.out, if_neg (by intro h; have := h.1; have := HM.out; omega)])
      go_wp2_with fail
      go_ret2
      exact ⟨_, by rw [HRN.out]; rfl, by rw [HRN.out]; exact PkF.nil _ _, HB1.out⟩
    · go_wp2_with fail
      go_loopw [4, 6] (fun v i wr => ∃ (k : Nat), k ≤ m ∧ i = .int .i64 k ∧ OwnF w.heap.size wr v (valsN (P.take k)) ∧ v.ownBlock ≠ some g ∧ g < wr.heap.size ∧ wr.heap[g]? = w1.heap[g]? ∧ (∀ j, (hj : j < P.length) → j < k → okP P[j] = true) ∧ Below w.heap.size w wr) (fun _ i _ => m - (intOf i).toNat)
      case atStart => exact ⟨0, Nat.zero_le _, rfl, HST.out, by simpa [Value.ownBlock] using HNE.out, HG1.out, rfl, fun j _ hj => absurd hj (Nat.not_lt_zero _), HB1.out⟩
      case round =>
        obtain ⟨k, hk, rfl, hown, hob, hgl, hgs, hall, hbel⟩ := hrel
        have HOWN := hid hown
        have HOB := hid hob
        have HGL := hid hgl
        have HGS := hid hgs
        have HALL := hid hall
        have HBEL := hid hbel
        clear hown hob hgl hgs hall hbel
        by_cases hlt : k < m
        · have hkP : k < P.length := by rw [HM.out]; exact hlt
          have hc1 : wr.cell? ⟨g, 0 + k, none⟩ = some (.string ⟨P[k].toArray⟩) := by
            rw [World.cell?_of_block (w := w1) HGS.out]
            exact HCELLS.out k _ (strsB_at P k hkP)
          rw [Nat.zero_add] at hc1
          obtain ⟨p, hp⟩ : ∃ p, P[k] = p := ⟨_, rfl⟩
          have HV : Hid (valsN (P.take (k + 1)) = valsN (P.take k) ++ [rd p]) := hid (by rw [valsN_step P k hkP, hp])
          have HFAIL : Hid (okP p = false → rdn s.data.toList = ([], false)) := hid (fun h => by rw [HR.out, if_neg (by intro h2; have := okN_no hkP (by rw [hp]; exact h); rw [this] at h2; exact absurd h2.2 (by decide))])
          have HOKK : Hid (okP p = true → okP P[k] = true) := hid (fun h => by rw [hp]; exact h)
          rw [hp] at hc1
          obtain ⟨t, ht⟩ : ∃ t : ByteArray, (⟨p.toArray⟩ : ByteArray) = t := ⟨_, rfl⟩
          have hpt : t.data.toList = p := by rw [← ht]
          rw [ht] at hc1
          clear hp ht
          by_cases h8 : t.size = 8
          · have HPL : Hid (p.length = 8) := hid (by rw [← hpt]; exact h8)
            have HTP : Hid (∀ i, (hi : i < t.size) → p.getD i 0 = t[i]) := hid (by
              intro i hi
              have hi2 : i < t.data.toList.length := hi
              rw [← hpt, List.getD_eq_getElem?_getD, List.getElem?_eq_getElem hi2]
              rfl)
            clear hpt
            go_wp2_with fail
            go_loop [7, 8] (fun n j => ∃ i : Nat, i ≤ 8 ∧ j = .int .i64 i ∧ n = .int .i64 (fh (p.take i) : Nat) ∧ ∀ q, q < i → low16 (p.getD q 0) = true) (fun _ j => 8 - (intOf j).toNat)
            case atStart => exact ⟨0, Nat.zero_le _, rfl, rfl, fun q hq => absurd hq (Nat.not_lt_zero _)⟩
            case round =>
              obtain ⟨i, hi, rfl, rfl, hlow⟩ := hrel
              have HLOW := hid hlow
              have hlt2 := fh_lt p i (by rw [HPL.out]; exact hi) (fun j hj => (low_hd (hlow j hj)).1)
              clear hlow
              by_cases hi8 : i < 8
              · have hit : i < t.size := by omega
                have HST := hid (fh_step p i (by rw [HPL.out]; exact hi8))
                have HCC := hid (HTP.out i hit)
                obtain ⟨n, hn0⟩ : ∃ n, fh (p.take i) = n := ⟨_, rfl⟩
                have hn := pow16_le hlt2 (by omega)
                rw [hn0] at hn HST ⊢
                rw [HCC.out] at HST
                have HN := hid hn
                have hw1 : wrap64 (16 * (n : Int)) = 16 * n := wr64 (by omega) (by omega)
                clear hlt2 hn0 hn
                by_cases hlw : low16 t[i] = true
                · obtain ⟨e1, -, -⟩ := low_hd hlw
                  obtain ⟨d, hd0⟩ : ∃ d, hd t[i] = d := ⟨_, rfl⟩
                  rw [hd0] at e1 HST
                  have hw2 : wrap64 (16 * (n : Int) + d) = 16 * n + d := wr64 (by have := HN.out; omega) (by have := HN.out; omega)
                  have HLW := hid hlw
                  rcases (low_iff _).1 hlw with ⟨g1, g2⟩ | ⟨g1, g2⟩
                  · have e3 : ((t[i].toNat : Int) - 48) = d := (hd_dig ⟨g1, g2⟩).1.trans (congrArg Int.ofNat hd0)
                    clear hlw hd0
                    go_wp2_with fail
                    go_round
                    case rel => exact ⟨i + 1, by omega, by go_num, congrArg (Value.int .i64) (hw2.trans (by rw [HST.out]; rfl)), fun q hq => by
                      by_cases e : q = i
                      · subst e; rw [HCC.out]; exact HLW.out
                      · exact HLOW.out q (by omega)⟩
                    case measure => simp [intOf]; omega
                  · have e3 : ((t[i].toNat : Int) - 97 + 10) = d := (hd_letter ⟨g1, g2⟩).trans (congrArg Int.ofNat hd0)
                    clear hlw hd0
                    go_wp2_with fail
                    go_round
                    case rel => exact ⟨i + 1, by omega, by go_num, congrArg (Value.int .i64) (hw2.trans (by rw [HST.out]; rfl)), fun q hq => by
                      by_cases e : q = i
                      · subst e; rw [HCC.out]; exact HLW.out
                      · exact HLOW.out q (by omega)⟩
                    case measure => simp [intOf]; omega
                · have HRN := hid (HFAIL.out (by
                    cases ho : okP p with
                    | false => rfl
                    | true =>
                      have := okP_low ho (p.getD i 0) (by rw [List.getD_eq_getElem?_getD, List.getElem?_eq_getElem (by rw [HPL.out]; exact hi8)]; exact List.getElem_mem _)
                      rw [HCC.out] at this
                      exact absurd this hlw))
                  have hnl : ¬ ((48 ≤ (t[i].toNat : Int) ∧ (t[i].toNat : Int) ≤ 57) ∨ (97 ≤ (t[i].toNat : Int) ∧ (t[i].toNat : Int) ≤ 102)) := fun h => hlw ((low_iff _).2 h)
                  clear hlw
                  go_wp2
                  all_goals first
                    | omega
                    | (go_ret2; exact ⟨_, by rw [HRN.out]; rfl, by rw [HRN.out]; exact PkF.nil _ _, HBEL.out⟩)
              · obtain rfl : i = 8 := by omega
                have hall : ∀ c ∈ p, low16 c = true := by
                  intro c hc
                  obtain ⟨q, hq, rfl⟩ := List.mem_iff_getElem.1 hc
                  have := HLOW.out q (by rw [← HPL.out]; exact hq)
                  rwa [List.getD_eq_getElem?_getD, List.getElem?_eq_getElem hq] at this
                have hfull : p.take 8 = p := List.take_of_length_le (by rw [HPL.out]; exact Nat.le_refl _)
                rw [hfull]
                have HN := hid (fh_lt8 HPL.out hall)
                have HRD := hid (rd_low hall)
                have HOKP : Hid (bo (fh p) = fh p → okP p = true) := hid (okP_of HPL.out hall)
                have HNOP : Hid (bo (fh p) ≠ fh p → okP p = false) := hid (fun h => by
                  cases ho : okP p with
                  | false => rfl
                  | true => exact absurd (okP_bo ho) h)
                obtain ⟨n, hn0⟩ : ∃ n, fh p = n := ⟨_, rfl⟩
                rw [hn0] at HN HRD HOKP HNOP ⊢
                clear hall hfull hn0 hlt2
                go_wp2_with fail
                refine (l01From n HN.out _).mono ?_
                rintro e w2 ⟨rfl, hw2⟩
                subst hw2
                go_wp2_with fail
                refine (l01Bits n HN.out _).mono ?_
                rintro e w3 ⟨rfl, hw3⟩
                subst hw3
                by_cases hb : bo n = n
                · have HOK2 := hid (HOKK.out (HOKP.out hb))
                  rw [hb]
                  clear hb
                  go_wp2_with (at_builtin; refine wpList_snocF rfl (.tmp 74) (.tmp 76) rfl w.heap.size HBEL.out.size n (valsN (P.take k)) _ (by unfold valsN; rw [List.length_map, List.length_take]; omega) rfl rfl HOWN.out ?_; intro v' w3 ho1 hb3 hkeep; have HO1 := hid ho1; have HB3 := hid (HBEL.out.trans hb3); have HK := hid (hkeep g HGL.out HOB.out); have HS3 := hid (Nat.lt_of_lt_of_le HGL.out hb3.size); clear ho1 hb3 hkeep)
                  go_roundw
                  case rel => exact ⟨k + 1, by omega, by go_num, by rw [HV.out, HRD.out]; exact HO1.out, HK.out.2, HS3.out, HK.out.1.trans HGS.out, fun j hjP hj => by
                    by_cases e : j = k
                    · subst e; exact HOK2.out
                    · exact HALL.out j hjP (by omega), HB3.out⟩
                  case measure => simp [intOf]; omega
                · have HRN := hid (HFAIL.out (HNOP.out hb))
                  have hbn : (((bo n : Nat) : Int) != (n : Int)) = true := by simp; omega
                  clear hb
                  go_wp2_with fail
                  go_ret2
                  exact ⟨_, by rw [HRN.out]; rfl, by rw [HRN.out]; exact PkF.nil _ _, HBEL.out⟩
          · have hn8 : ((t.size : Int) != 8) = true := by
              simp
              omega
            have HRN := hid (HFAIL.out (by unfold okP; have : p.length ≠ 8 := by rw [← hpt]; exact h8
                                           simp [this]))
            go_wp2_with fail
            go_ret2
            exact ⟨_, by rw [HRN.out]; rfl, by rw [HRN.out]; exact PkF.nil _ _, HBEL.out⟩
        · obtain rfl : k = m := by omega
          have HRY : Hid (rdn s.data.toList = (valsN P, true)) := hid (by rw [HR.out, if_pos ⟨by rw [HM.out]; omega, okN_of (fun j hj => HALL.out j hj (by rw [← HM.out]; exact hj))⟩])
          have HFIN : Hid (PkF w.heap.size wr _ (valsN P)) := hid (by have := HOWN.out.pk; rwa [List.take_of_length_le (by rw [HM.out]; exact Nat.le_refl _)] at this)
          go_wp2_with fail
          go_ret2
          exact ⟨_, by rw [HRY.out]; rfl, by rw [HRY.out]; exact HFIN.out, HBEL.out⟩
end Walk
end Go.Proofs.YtimablpgikebgaaDoor
