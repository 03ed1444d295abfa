/- Reading lists: the rebuild's reader. No condition but what the row lists. -/
import Derived.Test.YtimablpgikebgaaDoorVr2
import Derived.Test.YtimablpgikebgaaDoorVd4
import Derived.Test.YtimablpgikebgaaDoorSp0
namespace Go.Proofs.YtimablpgikebgaaDoor
open Go.RowKit Sl
set_option linter.unusedVariables false
set_option linter.unusedSimpArgs false
namespace Walk
theorem pieces_no (s : ByteArray) (hs : s.size ≤ 1048576) (hnone : s.data.toList ≠ [110, 111, 110, 101]) (m : Int) (w : World) (hm : w.cell? ⟨4, 0, none⟩ = some (.int .i64 m)) :
    Calls Tryd.prog 38 #[.string s] w fun e w' => e = .returned (.slice (some ⟨w.heap.size, 0, none⟩) (Dec.cutL s.data.toList).length (Dec.cutL s.data.toList).length) ∧ w' = w.alloc (.cells ((strsB (Dec.cutL s.data.toList)).map Value.string).toArray 9) := by
  have hne := none_no hnone
  have hsp := Tryd.strings_Split s Dec.comma m w (by omega) hm (by decide)
  have e1 : Lib.splitB Dec.comma 0 (Lib.countB s Dec.comma) s = strsB (Dec.cutL s.data.toList) := Dec.split_strs s
  have e2 : Lib.countB s Dec.comma + 1 = (Dec.cutL s.data.toList).length := by
    have := Lib.splitB_all Dec.comma (by decide) 0 _ s rfl
    rw [e1, strsB_length] at this
    exact this.symm
  rw [e1, e2] at hsp
  have HSP := hid hsp
  clear hsp e1 e2 hnone hm
  go_enter Tryd.func38, Tryd.ntmps38
  go_wp2_with fail
  refine HSP.out.mono ?_
  rintro e w1 ⟨rfl, rfl⟩
  go_wp2_with fail
  go_ret
  exact ⟨rfl, rfl⟩
def rdl' (l : List UInt8) : List Int × Bool :=
  if l = [110, 111, 110, 101] then ([], true)
  else if allD (Dec.cutL l) = true then (vals (Dec.cutL l), true) else ([], false)
def RetR' (l : List UInt8) (w : World) (e : Ending) (w' : World) : Prop := ∃ v, e = .returned (.tuple #[v, .bool (rdl' l).2]) ∧ Pk w.heap.size w' v (rdl' l).1 ∧ Below w.heap.size w w'
set_option maxRecDepth 100000 in
set_option maxHeartbeats 1000000 in
theorem readList (s : ByteArray) (hs : s.size ≤ 1048576) (w : World) (mx : Int) (hmx : w.cell? ⟨4, 0, none⟩ = some (.int .i64 mx)) (he1 : ErrAt w "strconv.ErrSyntax") (he2 : ErrAt w "strconv.ErrRange") (htab : Lib.TabBelow Tryd.prog w.heap.size w "internal/strconv.uint64pow10" .u64 Lib.pow10Tab) : Calls Tryd.prog 36 #[.string s] w fun e w' => RetR' s.data.toList w e w' := by
  have HE1 := hid he1
  have HE2 := hid he2
  have HTAB := hid htab
  have HMX := hid hmx
  have HMXB := hid (block_lt hmx)
  clear he1 he2 htab hmx
  by_cases hnone : s.data.toList = [110, 111, 110, 101]
  · have HR : Hid (rdl' s.data.toList = ([], true)) := hid (by unfold rdl'; rw [if_pos hnone])
    have hsn := none_yes hnone
    clear hnone
    subst hsn
    go_enter Tryd.func36, Tryd.ntmps36
    go_wp2
    go_loopw [4, 13] (fun v i wr => i = .int .i64 (0 : Nat) ∧ OwnI w.heap.size wr v [] ∧ Below w.heap.size w wr) (fun _ _ _ => 0)
    case atStart => exact ⟨rfl, OwnI.start w, Below.alloc (Below.refl _ _) (Nat.le_refl _) _⟩
    case round =>
      obtain ⟨rfl, hown, hbel⟩ := hrel
      have HOWN := hid hown
      have HBEL := hid hbel
      clear hown hbel
      go_wp2_with fail
      go_ret2
      exact ⟨_, by rw [HR.out]; rfl, by rw [HR.out]; exact HOWN.out.pk, HBEL.out⟩
  · obtain ⟨P, hP⟩ : ∃ P, Dec.cutL s.data.toList = P := ⟨_, rfl⟩
    have HR : Hid (rdl' s.data.toList = if allD P = true then (vals P, true) else ([], false)) := hid (by unfold rdl'; rw [if_neg hnone, hP])
    have HCUT := pieces_no s hs hnone mx
    rw [hP] at HCUT
    have HC := hid HCUT
    have HPS : Hid (∀ p ∈ P, p.length ≤ 1048576) := hid (by
      intro p hp
      rw [← hP] at hp
      have := Dec.cut_piece _ p hp
      have e : s.data.toList.length = s.size := by simp
      omega)
    have HPL : Hid (P.length ≤ 1048577) := hid (by
      rw [← hP]
      have := Dec.cut_len s.data.toList
      have e : s.data.toList.length = s.size := by simp
      omega)
    clear hnone HCUT hP
    go_enter Tryd.func36, Tryd.ntmps36
    go_wp2_with fail
    refine (HC.out _ (((Below.alloc (Below.refl w.heap.size w) (Nat.le_refl _) _).cell (p := ⟨4, 0, none⟩) HMXB.out).trans HMX.out)).mono ?_
    rintro e w1 ⟨rfl, hw1⟩
    obtain ⟨g, hg⟩ : ∃ g, (w.alloc (.cells #[] 2)).heap.size = g := ⟨_, rfl⟩
    have hgw : w.heap.size + 1 = g := by rw [← hg]; simp
    have hb0 : Below w.heap.size w (w.alloc (.cells #[] 2)) := Below.alloc (Below.refl _ _) (Nat.le_refl _) _
    have hb1 : Below g (w.alloc (.cells #[] 2)) w1 := by rw [hw1]; exact Below.alloc (Below.refl _ _) (by omega) _
    have HB1 : Hid (Below w.heap.size w w1) := hid (hb0.trans (hb1.mono (by omega)))
    have HST := hid ((OwnI.start w).below (by rw [hg]; exact hb1))
    have HNE : Hid (w.heap.size ≠ g) := hid (by omega)
    have hheap : w1.heap[g]? = some (.cells ((strsB P).map Value.string).toArray 9 (0, 0)) := by rw [hw1, ← hg]; exact (MapKept.heap_alloc _ _).1
    have HG1 : Hid (g < w1.heap.size) := hid ((Array.getElem?_eq_some_iff.1 hheap).1)
    have HCELLS : Hid (∀ (j : Nat) x, (strsB P)[j]? = some x → w1.cell? ⟨g, 0 + j, none⟩ = some (.string x)) := hid (by
      intro j x hj
      simp only [World.cell?, hheap, Nat.zero_add]
      simp [hj])
    rw [hg]
    clear hw1 hgw hb0 hb1 hheap hg
    obtain ⟨m, hm⟩ : ∃ m, P.length = m := ⟨_, rfl⟩
    have HM := hid hm
    rw [hm]
    have hml : m ≤ 1048577 := by rw [← hm]; exact HPL.out
    clear hm
    go_wp2_with fail
    go_loopw [4, 13] (fun v i wr => ∃ (k : Nat), k ≤ m ∧ i = .int .i64 k ∧ OwnI w.heap.size wr v (vals (P.take k)) ∧ v.ownBlock ≠ some g ∧ g < wr.heap.size ∧ wr.heap[g]? = w1.heap[g]? ∧ (∀ j, (hj : j < P.length) → j < k → (Dec.decOf P[j]).2 = true) ∧ Below w.heap.size w wr) (fun _ i _ => m - (intOf i).toNat)
    case atStart => exact ⟨0, Nat.zero_le _, rfl, HST.out, by simpa [Value.ownBlock] using HNE.out, HG1.out, rfl, fun j _ hj => absurd hj (Nat.not_lt_zero _), HB1.out⟩
    case round =>
      obtain ⟨k, hk, rfl, hown, hob, hgl, hgs, hall, hbel⟩ := hrel
      have HOWN := hid hown
      have HOB := hid hob
      have HGL := hid hgl
      have HGS := hid hgs
      have HALL := hid hall
      have HBEL := hid hbel
      clear hown hob hgl hgs hall hbel
      by_cases hlt : k < m
      · have hkP : k < P.length := by rw [HM.out]; exact hlt
        have hc1 : wr.cell? ⟨g, 0 + k, none⟩ = some (.string ⟨P[k].toArray⟩) := by
          rw [World.cell?_of_block (w := w1) HGS.out]
          exact HCELLS.out k _ (strsB_at P k hkP)
        rw [Nat.zero_add] at hc1
        have hps := HPS.out P[k] (List.getElem_mem hkP)
        obtain ⟨⟨x, d⟩, hr⟩ : ∃ r, Dec.decOf P[k] = r := ⟨_, rfl⟩
        have HX := hid hr
        have hrd := fun w' => imReadDecimal (⟨P[k].toArray⟩ : ByteArray) hps w'
        rw [show (⟨P[k].toArray⟩ : ByteArray).data.toList = P[k] from rfl, hr] at hrd
        have HV : Hid (vals (P.take (k + 1)) = vals (P.take k) ++ [x]) := hid (by rw [vals_step P k hkP, hr])
        obtain ⟨t, ht⟩ : ∃ t : ByteArray, (⟨P[k].toArray⟩ : ByteArray) = t := ⟨_, rfl⟩
        rw [ht] at hc1 hrd
        have HRD := hid hrd
        clear hps hr hrd ht
        go_wp2_with fail
        refine (HRD.out _ (HE1.out.on HBEL.out) (HE2.out.on HBEL.out) (Lib.tabBelow_of_tabIs (HTAB.out.on HBEL.out).here)).mono ?_
        rintro e w2 ⟨rfl, hb2⟩
        have HB2 := hid (below_to HBEL.out hb2)
        have HOWN2 := hid (HOWN.out.below hb2)
        have HGS2 := hid ((hb2.block g HGL.out).trans HGS.out)
        have HGL2 := hid (Nat.lt_of_lt_of_le HGL.out hb2.size)
        clear hb2
        cases d with
        | false =>
          have HRN : Hid (rdl' s.data.toList = ([], false)) := hid (by rw [HR.out, if_neg (by intro h; have := allD_no hkP (by rw [HX.out]); rw [this] at h; cases h)])
          go_wp2_with fail
          go_ret2
          exact ⟨_, by rw [HRN.out]; rfl, by rw [HRN.out]; exact Pk.nil _ _, HB2.out⟩
        | true =>
          have hw0 : (Dec.decOf P[k]).2 = true := by rw [HX.out]
          have HW0 := hid hw0
          clear hw0
          go_wp2_with (at_builtin; refine wpList_snocI rfl (.tmp 24) (.tmp 26) rfl w.heap.size HB2.out.size x (vals (P.take k)) _ (by unfold vals; rw [List.length_map, List.length_take]; omega) rfl rfl HOWN2.out ?_; intro v' w3 ho1 hb3 hkeep; have HO1 := hid ho1; have HB3 := hid (HB2.out.trans hb3); have HK := hid (hkeep g HGL2.out HOB.out); have HS3 := hid (Nat.lt_of_lt_of_le HGL2.out hb3.size); clear ho1 hb3 hkeep)
          go_roundw
          case rel => exact ⟨k + 1, by omega, by go_num, by rw [HV.out]; exact HO1.out, HK.out.2, HS3.out, HK.out.1.trans HGS2.out, fun j hjP hj => by
            by_cases e : j = k
            · subst e; exact HW0.out
            · exact HALL.out j hjP (by omega), HB3.out⟩
          case measure => simp [intOf]; omega
      · obtain rfl : k = m := by omega
        have HRY : Hid (rdl' s.data.toList = (vals P, true)) := hid (by rw [HR.out, if_pos (allD_of (fun j hj => HALL.out j hj (by rw [← HM.out]; exact hj)))])
        have HFIN : Hid (Pk w.heap.size wr _ (vals P)) := hid (by have := HOWN.out.pk; rwa [List.take_of_length_le (by rw [HM.out]; exact Nat.le_refl _)] at this)
        go_wp2_with fail
        go_ret2
        exact ⟨_, by rw [HRY.out]; rfl, by rw [HRY.out]; exact HFIN.out, HBEL.out⟩
end Walk
end Go.Proofs.YtimablpgikebgaaDoor
