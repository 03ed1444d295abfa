/- Reading lists: rows of numbers that a call makes; the reference's reader. No condition. -/
import Derived.Test.YtimablpgikebgaaDoorVr1
namespace Go.Proofs.YtimablpgikebgaaDoor
open Go.RowKit Sl
set_option linter.unusedVariables false
set_option linter.unusedSimpArgs false
namespace Walk
/-- A list of numbers that the call made. -/
def OwnI (B : Nat) (w : World) (v : Value) (l : List Int) : Prop := ∃ g cap cur, v = .slice (some ⟨g, 0, none⟩) l.length cap ∧ B ≤ g ∧ w.heap[g]? = some (.cells cur 2 (0, 0)) ∧ l.length ≤ cap ∧ cap ≤ maxLen ∧ cur.size = cap ∧ cur.toList.take l.length = l.map (Value.int .i64)
theorem OwnI.below {B : Nat} {w w' : World} {v : Value} {l : List Int} (h : OwnI B w v l) (b : Below w.heap.size w w') : OwnI B w' v l := by
  obtain ⟨g, cap, cur, hv, h1, hg, hr⟩ := h
  exact ⟨g, cap, cur, hv, h1, (b.block g (Array.getElem?_eq_some_iff.1 hg).1).trans hg, hr⟩
theorem OwnI.row {B : Nat} {w : World} {v : Value} {l : List Int} (h : OwnI B w v l) : w.ownsRow B 2 1 v l.length (l.map (Value.int .i64)) := by
  obtain ⟨g, cap, cur, hv, h1, hg, h2, h3, h4, h5⟩ := h
  exact ⟨by simp, .inr ⟨g, cap, cur, hv, h1, hg, h2, h3, by omega, by rw [Nat.mul_one]; exact h5⟩⟩
theorem OwnI.start (w : World) : OwnI w.heap.size (w.alloc (.cells #[] 2)) (.slice (some ⟨w.heap.size, 0, none⟩) 0 0) [] :=
  ⟨w.heap.size, 0, #[], rfl, Nat.le_refl _, (MapKept.heap_alloc w _).1, Nat.le_refl _, Nat.zero_le _, rfl, rfl⟩
/-- 'append(out, y)'. -/
theorem wpList_snocI {wq : World} {ops : Array Oper} {rest : List Oper} {o : Oper} {a : Act} {Q : Exit → Act → World → Prop} (hgd : o.guard = none) (s x : Operand)
    (ho : o.op = .call { callee := .builtin .append, args := #[s, x], argTypes := #[22, 22] }) (B : Nat) (hB : B ≤ wq.heap.size) (y : Int) (l : List Int) (v : Value) (hl : l.length ≤ 2000000)
    (hs : a.eval s = v) (hx : a.eval x = .slice (some ⟨wq.heap.size, 0, none⟩) 1 1) (hown : OwnI B wq v l)
    (h : ∀ v' w1, OwnI B w1 v' (l ++ [y]) → Below B wq w1 → (∀ b, b < wq.heap.size → v.ownBlock ≠ some b → w1.heap[b]? = wq.heap[b]? ∧ v'.ownBlock ≠ some b) → wpList Tryd.prog ops Q rest (a.put o.dst v') w1) : wpList Tryd.prog ops Q (o :: rest) a (wq.alloc (.cells #[.int .i64 y] 2)) := by
  obtain ⟨i0, hi, hz0, hz1, hz2⟩ := info_parts infoI
  have hrow := (hown.below (Below.alloc (Below.refl wq.heap.size wq) (Nat.le_refl _) (.cells #[.int .i64 y] 2))).row
  refine wpList_append_own_at _ hgd s x 22 ho B 2 i0 (.int .i64 0) 1 8 Tryd.underlying22 hi hz0 hz1 hz2 rfl (by decide) v l.length (l.map (Value.int .i64)) hs hrow ⟨wq.heap.size, 0, none⟩ 1 1 [.int .i64 y] hx rfl ?_ ?_ (by unfold maxLen; omega) (by omega) (by simp; omega) ?_
  · intro j u hj
    cases j with
    | zero =>
      simp at hj
      subst hj
      rw [Addr.add_lit]
      unfold World.cell?
      simp only [(MapKept.heap_alloc wq (.cells #[.int .i64 y] 2)).1]
      rfl
    | succ j => simp at hj
  · intro u hu
    simp at hu
    subst hu
    rfl
  · intro v' w1 hown1 hgrow _ hat
    have hb : Below B wq w1 := ((Below.refl B wq).alloc hB _).grown hgrow (by simp; omega) (fun q hq => (hrow.lt q hq).1)
    refine h v' w1 ?_ hb ?_
    · rcases hown1.2 with ⟨-, h0⟩ | ⟨g', cap', cur, rfl, hbg, hg, h2, h3, h4, h5⟩
      · simp at h0
      · exact ⟨g', cap', cur, by simp, hbg, hg, by simpa using h2, h3, by omega, by simpa using h5⟩
    · intro b hbl hne
      refine ⟨(hgrow.block b (by simp; omega) (fun e => hne e.symm)).trans ((Below.alloc (Below.refl wq.heap.size wq) (Nat.le_refl _) (.cells #[.int .i64 y] 2)).block b hbl), fun e => ?_⟩
      rcases hat with hat | hat
      · exact hne (hat.symm.trans e)
      · rw [hat] at e
        simp at e
        omega
/-- A row of numbers, its own or none. -/
def Pk (B : Nat) (w : World) (v : Value) (zs : List Int) : Prop := ∃ a cap, v = .slice a zs.length cap ∧ (0 < zs.length → ∃ g cur, a = some ⟨g, 0, none⟩ ∧ B ≤ g ∧ w.heap[g]? = some (.cells cur 2 (0, 0)) ∧ zs.length ≤ cur.size ∧ cur.toList.take zs.length = zs.map (Value.int .i64))
theorem OwnI.pk {B : Nat} {w : World} {v : Value} {l : List Int} (h : OwnI B w v l) : Pk B w v l := by
  obtain ⟨g, cap, cur, hv, h1, hg, h2, h3, h4, h5⟩ := h
  exact ⟨_, cap, hv, fun _ => ⟨g, cur, rfl, h1, hg, by omega, h5⟩⟩
theorem Pk.nil (B : Nat) (w : World) : Pk B w (.slice none 0 0) [] := ⟨none, 0, rfl, fun h => absurd h (by decide)⟩
/-- What reading a list gives. -/
def vals (L : List (List UInt8)) : List Int := L.map fun p => (Dec.decOf p).1
def allD (L : List (List UInt8)) : Bool := L.all fun p => (Dec.decOf p).2
def rdl (l : List UInt8) : List Int × Bool :=
  if l = [110, 111, 110, 101] then ([], true)
  else if (Dec.cutL l).length ≤ 64 ∧ allD (Dec.cutL l) = true then (vals (Dec.cutL l), true) else ([], false)
theorem allD_no {L : List (List UInt8)} {k : Nat} (hk : k < L.length) (h : (Dec.decOf L[k]).2 = false) : allD L = false := by
  cases ho : allD L with
  | false => rfl
  | true =>
    unfold allD at ho
    rw [List.all_eq_true] at ho
    have := ho _ (List.getElem_mem hk)
    rw [h] at this
    cases this
theorem allD_of {L : List (List UInt8)} (h : ∀ k, (hk : k < L.length) → (Dec.decOf L[k]).2 = true) : allD L = true := by
  unfold allD
  rw [List.all_eq_true]
  intro x hx
  obtain ⟨k, hk, rfl⟩ := List.mem_iff_getElem.1 hx
  exact h k hk
theorem vals_step (L : List (List UInt8)) (k : Nat) (hk : k < L.length) : vals (L.take (k + 1)) = vals (L.take k) ++ [(Dec.decOf L[k]).1] := by
  unfold vals
  rw [List.take_succ_eq_append_getElem hk, List.map_append]
  rfl
def RetR (l : List UInt8) (w : World) (e : Ending) (w' : World) : Prop := ∃ v, e = .returned (.tuple #[v, .bool (rdl l).2]) ∧ Pk w.heap.size w' v (rdl l).1 ∧ Below w.heap.size w w'
theorem strsB_at (L : List (List UInt8)) (k : Nat) (hk : k < L.length) : (strsB L)[k]? = some (⟨L[k].toArray⟩ : ByteArray) := by
  unfold strsB
  rw [List.getElem?_map, List.getElem?_eq_getElem hk]
  rfl
theorem none_yes {s : ByteArray} (h : s.data.toList = [110, 111, 110, 101]) : s = ⟨#[110, 111, 110, 101]⟩ := by
  obtain ⟨⟨x⟩⟩ := s
  rw [show x = _ from h]
theorem none_no {s : ByteArray} (h : s.data.toList ≠ [110, 111, 110, 101]) : (s.toList == [110, 111, 110, 101]) = false := by
  rw [ByteArray.toList_eq]
  exact beq_eq_false_iff_ne.2 h
set_option maxRecDepth 100000 in
set_option maxHeartbeats 1000000 in
theorem l01Numbers (s : ByteArray) (hs : s.size ≤ 1048576) (w : World) : Calls Tryd.prog 35 #[.string s] w fun e w' => RetR s.data.toList w e w' := by
  by_cases hnone : s.data.toList = [110, 111, 110, 101]
  · have HR : Hid (rdl s.data.toList = ([], true)) := hid (by unfold rdl; rw [if_pos hnone])
    have hsn := none_yes hnone
    clear hnone
    subst hsn
    go_enter Tryd.func35, Tryd.ntmps35
    go_wp2_with fail
    go_ret2
    exact ⟨_, by rw [HR.out]; rfl, by rw [HR.out]; exact (OwnI.start w).pk, Below.alloc (Below.refl _ _) (Nat.le_refl _) _⟩
  · have hne := none_no hnone
    obtain ⟨P, hP⟩ : ∃ P, Dec.cutL s.data.toList = P := ⟨_, rfl⟩
    have HR : Hid (rdl s.data.toList = if P.length ≤ 64 ∧ allD P = true then (vals P, true) else ([], false)) := hid (by unfold rdl; rw [if_neg hnone, hP])
    have HCUT := l01Cut s hs
    rw [hP] at HCUT
    have HC := hid HCUT
    have HPS : Hid (∀ p ∈ P, p.length ≤ 1048576) := hid (by
      intro p hp
      rw [← hP] at hp
      have := Dec.cut_piece _ p hp
      have e : s.data.toList.length = s.size := by simp
      omega)
    clear hnone HCUT hP
    go_enter Tryd.func35, Tryd.ntmps35
    go_wp2_with fail
    refine (HC.out _).mono ?_
    rintro e w1 ⟨v1, rfl, hown1, hb1⟩
    have HB1 := hid (Below.trans (Below.alloc (Below.refl _ _) (Nat.le_refl _) _) (hb1.mono (by simp)) : Below w.heap.size w w1)
    have hst : OwnI w.heap.size w1 (.slice (some ⟨w.heap.size, 0, none⟩) 0 0) [] := (OwnI.start w).below hb1
    have HST := hid hst
    obtain ⟨g, cap, hv1, hg1⟩ := hown1.lt
    subst hv1
    obtain ⟨-, -, hcells⟩ := hown1.cells
    have HNE : Hid (w.heap.size ≠ g) := hid (by
      obtain ⟨g', cap', cur', hv', hg', -⟩ := hown1
      injection hv' with e1 e2 e3
      injection e1 with e1
      injection e1 with e1
      subst e1
      simp at hg'
      omega)
    have HCELLS := hid hcells
    have hlen : (strsB P).length = P.length := strsB_length P
    have HG1 := hid hg1
    rw [hlen]
    clear hb1 hst hown1 hcells hg1 hlen
    obtain ⟨m, hm⟩ : ∃ m, P.length = m := ⟨_, rfl⟩
    have HM := hid hm
    rw [hm]
    clear hm
    by_cases h64 : 64 < m
    · have HRN : Hid (rdl s.data.toList = ([], false)) := hid (by rw [HR.out, if_neg (by intro h; have := h.1; have := HM.out; omega)])
      go_wp2_with fail
      go_ret2
      exact ⟨_, by rw [HRN.out]; rfl, by rw [HRN.out]; exact Pk.nil _ _, HB1.out⟩
    · go_wp2_with fail
      go_loopw [4, 6] (fun v i wr => ∃ (k : Nat), k ≤ m ∧ i = .int .i64 k ∧ OwnI w.heap.size wr v (vals (P.take k)) ∧ v.ownBlock ≠ some g ∧ g < wr.heap.size ∧ wr.heap[g]? = w1.heap[g]? ∧ (∀ j, (hj : j < P.length) → j < k → (Dec.decOf P[j]).2 = true) ∧ Below w.heap.size w wr) (fun _ i _ => m - (intOf i).toNat)
      case atStart => exact ⟨0, Nat.zero_le _, rfl, HST.out, by simpa [Value.ownBlock] using HNE.out, HG1.out, rfl, fun j _ hj => absurd hj (Nat.not_lt_zero _), HB1.out⟩
      case round =>
        obtain ⟨k, hk, rfl, hown, hob, hgl, hgs, hall, hbel⟩ := hrel
        have HOWN := hid hown
        have HOB := hid hob
        have HGL := hid hgl
        have HGS := hid hgs
        have HALL := hid hall
        have HBEL := hid hbel
        clear hown hob hgl hgs hall hbel
        by_cases hlt : k < m
        · have hkP : k < P.length := by rw [HM.out]; exact hlt
          have hc1 : wr.cell? ⟨g, 0 + k, none⟩ = some (.string ⟨P[k].toArray⟩) := by
            rw [World.cell?_of_block (w := w1) HGS.out]
            exact HCELLS.out k _ (strsB_at P k hkP)
          rw [Nat.zero_add] at hc1
          have hps := HPS.out P[k] (List.getElem_mem hkP)
          obtain ⟨⟨x, d⟩, hr⟩ : ∃ r, Dec.decOf P[k] = r := ⟨_, rfl⟩
          have HX := hid hr
          have hrd := fun w' => l01Value (⟨P[k].toArray⟩ : ByteArray) hps w'
          rw [show (⟨P[k].toArray⟩ : ByteArray).data.toList = P[k] from rfl, hr] at hrd
          have HV : Hid (vals (P.take (k + 1)) = vals (P.take k) ++ [x]) := hid (by rw [vals_step P k hkP, hr])
          obtain ⟨t, ht⟩ : ∃ t : ByteArray, (⟨P[k].toArray⟩ : ByteArray) = t := ⟨_, rfl⟩
          rw [ht] at hc1 hrd
          have HRD := hid hrd
          clear hps hr hrd ht
          go_wp2_with fail
          refine (HRD.out _).mono ?_
          rintro e w2 ⟨rfl, hb2⟩
          have HB2 := hid (below_to HBEL.out hb2)
          have HOWN2 := hid (HOWN.out.below hb2)
          have HGS2 := hid ((hb2.block g HGL.out).trans HGS.out)
          have HGL2 := hid (Nat.lt_of_lt_of_le HGL.out hb2.size)
          clear hb2
          cases d with
          | false =>
            have HRN : Hid (rdl s.data.toList = ([], false)) := hid (by rw [HR.out, if_neg (by intro h; have := allD_no hkP (by rw [HX.out]); rw [this] at h; exact absurd h.2 (by decide))])
            go_wp2_with fail
            go_ret2
            exact ⟨_, by rw [HRN.out]; rfl, by rw [HRN.out]; exact Pk.nil _ _, HB2.out⟩
          | true =>
            have hw0 : (Dec.decOf P[k]).2 = true := by rw [HX.out]
            have HW0 := hid hw0
            clear hw0
            go_wp2_with (at_builtin; refine wpList_snocI rfl (.tmp 34) (.tmp 36) rfl w.heap.size HB2.out.size x (vals (P.take k)) _ (by unfold vals; rw [List.length_map, List.length_take]; omega) rfl rfl HOWN2.out ?_; intro v' w3 ho1 hb3 hkeep; have HO1 := hid ho1; have HB3 := hid (HB2.out.trans hb3); have HK := hid (hkeep g HGL2.out HOB.out); have HS3 := hid (Nat.lt_of_lt_of_le HGL2.out hb3.size); clear ho1 hb3 hkeep)
            go_roundw
            case rel => exact ⟨k + 1, by omega, by go_num, by rw [HV.out]; exact HO1.out, HK.out.2, HS3.out, HK.out.1.trans HGS2.out, fun j hjP hj => by
              by_cases e : j = k
              · subst e; exact HW0.out
              · exact HALL.out j hjP (by omega), HB3.out⟩
            case measure => simp [intOf]; omega
        · obtain rfl : k = m := by omega
          have HRY : Hid (rdl s.data.toList = (vals P, true)) := hid (by rw [HR.out, if_pos ⟨by rw [HM.out]; omega, allD_of (fun j hj => HALL.out j hj (by rw [← HM.out]; exact hj))⟩])
          have HFIN : Hid (Pk w.heap.size wr _ (vals P)) := hid (by have := HOWN.out.pk; rwa [List.take_of_length_le (by rw [HM.out]; exact Nat.le_refl _)] at this)
          go_wp2_with fail
          go_ret2
          exact ⟨_, by rw [HRY.out]; rfl, by rw [HRY.out]; exact HFIN.out, HBEL.out⟩
end Walk
end Go.Proofs.YtimablpgikebgaaDoor
