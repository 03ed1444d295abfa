/- Numbers read: the rebuild's reader. No condition but what the row lists. -/
import Derived.Test.YtimablpgikebgaaDoorVu3
namespace Go.Proofs.YtimablpgikebgaaDoor
open Go.RowKit Sl
set_option linter.unusedVariables false
set_option linter.unusedSimpArgs false
namespace Walk
theorem PkF.slV {B : Nat} {w : World} {a : Option Addr} {len cap : Nat} {zs : List Nat} (h : PkF B w (.slice a len cap) zs) : len = zs.length ∧ SlV (Value.float .f32) w a len zs := by
  obtain ⟨a', cap', hv, h⟩ := h
  injection hv with e1 e2 e3
  subst e1
  subst e2
  refine ⟨rfl, rfl, fun h0 => ?_⟩
  obtain ⟨g, cur, rfl, h1, hg, h2, h3⟩ := h h0
  refine ⟨g, 0, rfl, (Array.getElem?_eq_some_iff.1 hg).1, fun i hi => ?_⟩
  have : cur[i]? = some (Value.float .f32 (zs.getD i default)) := by
    have := congrArg (·[i]?) h3
    simp only [List.getElem?_take_of_lt hi, List.getElem?_map, Array.getElem?_toList, List.getElem?_eq_getElem hi, Option.map_some] at this
    rw [this, List.getD_eq_getElem?_getD, List.getElem?_eq_getElem hi]
    rfl
  simp only [World.cell?, hg, Nat.zero_add]
  exact this

theorem rd_lt {p : List UInt8} (hl : p.length = 8) : rd p < 4294967296 := by
  unfold rd
  split
  · rename_i h
    have := fh_lt p 8 (by omega) (fun j hj => by
      rw [List.all_eq_true] at h
      have := h (p[j]'(by omega)) (List.getElem_mem _)
      rw [List.getD_eq_getElem?_getD, List.getElem?_eq_getElem (by omega)]
      simpa using this)
    rw [List.take_of_length_le (by omega)] at this
    have e : (16 : Nat) ^ 8 = 4294967296 := by decide +kernel
    omega
  · omega
theorem hexs_vals (P : List (List UInt8)) : hexs (valsN P) = P.map fun p => hexW 8 (bo (rd p)) := by
  unfold hexs valsN
  rw [List.map_map]
  rfl
theorem txt_iff (l : List UInt8) (h8 : ∀ p ∈ Dec.cutL l, p.length = 8) : txtL (hexs (valsN (Dec.cutL l))) = l ↔ (Dec.cutL l).all okP = true := by
  have hpos := Dec.cut_pos l
  have hne : Dec.cutL l ≠ [] := by intro e; rw [e] at hpos; simp at hpos
  have hq : hexs (valsN (Dec.cutL l)) ≠ [] := by rw [hexs_vals]; simpa using hne
  have ht : txtL (hexs (valsN (Dec.cutL l))) = Lib.join (hexs (valsN (Dec.cutL l))) [44] := by unfold txtL; rw [if_neg hq]
  have hcut : Dec.cutL (Lib.join (hexs (valsN (Dec.cutL l))) [44]) = hexs (valsN (Dec.cutL l)) := cut_join _ (fun p hp c hc => by
    rw [hexs_vals] at hp
    obtain ⟨q, _, rfl⟩ := List.mem_map.1 hp
    have := hexW_low 8 _ c hc
    intro e
    rw [e] at this
    exact absurd this (by decide)) hq
  rw [ht]
  constructor
  · intro h
    rw [h] at hcut
    rw [List.all_eq_true]
    intro p hp
    obtain ⟨k, hk, rfl⟩ := List.mem_iff_getElem.1 hp
    have e : (hexs (valsN (Dec.cutL l)))[k]? = (Dec.cutL l)[k]? := by rw [← hcut]
    rw [hexs_vals, List.getElem?_map, List.getElem?_eq_getElem hk] at e
    unfold okP
    have e2 : hexW 8 (bo (rd (Dec.cutL l)[k])) = (Dec.cutL l)[k] := Option.some.inj e
    rw [e2, h8 _ hp]
    simp
  · intro h
    have : hexs (valsN (Dec.cutL l)) = Dec.cutL l := by
      rw [hexs_vals]
      conv => rhs; rw [← List.map_id (Dec.cutL l)]
      refine List.map_congr_left fun p hp => ?_
      rw [List.all_eq_true] at h
      exact okP_eq (h p hp)
    rw [this]
    exact join_cut l
theorem pieces_none (w : World) : Calls Tryd.prog 38 #[.string ⟨#[110, 111, 110, 101]⟩] w fun e w' => e = .returned (.slice none 0 0) ∧ w' = w := by
  go_enter Tryd.func38, Tryd.ntmps38
  go_wp2
  go_ret
  exact ⟨rfl, rfl⟩
set_option maxRecDepth 100000 in
set_option maxHeartbeats 4000000 in
theorem imReadNumbers (s : ByteArray) (hs : s.size ≤ 1048576) (w : World) (mx : Int) (hmx : w.cell? ⟨4, 0, none⟩ = some (.int .i64 mx)) (he1 : ErrAt w "strconv.ErrSyntax") (htz : w.cell? ⟨6, 15, none⟩ = some (.int .u8 4)) : Calls Tryd.prog 16 #[.string s] w fun e w' => RetN s.data.toList w e w' := by
  have HE1 := hid he1
  have HMX := hid hmx
  have HMXB := hid (block_lt hmx)
  have HTZ := hid htz
  have HTB := hid (block_lt htz)
  clear he1 hmx htz
  by_cases hnone : s.data.toList = [110, 111, 110, 101]
  · have HR : Hid (rdn s.data.toList = ([], true)) := hid (by unfold rdn; rw [if_pos hnone])
    have hsn := none_yes hnone
    clear hnone
    subst hsn
    go_enter Tryd.func16, Tryd.ntmps16
    go_wp2_with fail
    refine (pieces_none _).mono ?_
    rintro e w1 ⟨rfl, rfl⟩
    go_wp2_with fail
    go_loopw [4, 13] (fun v i wr => i = .int .i64 (0 : Nat) ∧ OwnF w.heap.size wr v [] ∧ Below w.heap.size w wr) (fun _ _ _ => 0)
    case atStart => exact ⟨rfl, OwnF.start w, Below.alloc (Below.refl _ _) (Nat.le_refl _) _⟩
    case round =>
      obtain ⟨rfl, hown, hbel⟩ := hrel
      have HOWN := hid hown
      have HBEL := hid hbel
      obtain ⟨g, cap, cur, rfl, -⟩ := id hown
      have hp := hown.pk
      have HIM := hid (imNumbersText _ 0 cap [] wr hp.slV.2 (fun k hk => absurd hk (Nat.not_lt_zero _)) (by omega) ((hbel.cell (p := ⟨6, 15, none⟩) HTB.out).trans HTZ.out))
      clear hown hbel hp
      go_wp2_with fail
      refine HIM.out.mono ?_
      rintro e w2 ⟨rfl, hb⟩
      have HOWN2 := hid (HOWN.out.below hb)
      have HB2 := hid (below_to HBEL.out hb)
      clear hb
      have hnt : ntx [] 0 = ([110, 111, 110, 101], true) := by decide +kernel
      rw [hnt]
      go_wp2_with fail
      go_ret2
      exact ⟨_, by rw [HR.out]; rfl, by rw [HR.out]; exact HOWN2.out.pk, HB2.out⟩
  · obtain ⟨P, hP⟩ : ∃ P, Dec.cutL s.data.toList = P := ⟨_, rfl⟩
    have HR : Hid (rdn s.data.toList = if P.length ≤ 256 ∧ P.all okP = true then (valsN P, true) else ([], false)) := hid (by unfold rdn; rw [if_neg hnone, hP])
    have HIFF : Hid ((∀ p ∈ P, p.length = 8) → (txtL (hexs (valsN P)) = s.data.toList ↔ P.all okP = true)) := hid (by rw [← hP]; exact txt_iff _)
    have HCUT := pieces_no s hs hnone mx
    rw [hP] at HCUT
    have HC := hid HCUT
    have HPL : Hid (P.length ≤ 1048577) := hid (by
      rw [← hP]
      have := Dec.cut_len s.data.toList
      have e : s.data.toList.length = s.size := by simp
      omega)
    clear hnone HCUT hP
    go_enter Tryd.func16, Tryd.ntmps16
    go_wp2_with fail
    refine (HC.out _ (((Below.alloc (Below.refl w.heap.size w) (Nat.le_refl _) _).cell (p := ⟨4, 0, none⟩) HMXB.out).trans HMX.out)).mono ?_
    rintro e w1 ⟨rfl, hw1⟩
    obtain ⟨g, hg⟩ : ∃ g, (w.alloc (.cells #[] 51)).heap.size = g := ⟨_, rfl⟩
    have hgw : w.heap.size + 1 = g := by rw [← hg]; simp
    have hb0 : Below w.heap.size w (w.alloc (.cells #[] 51)) := Below.alloc (Below.refl _ _) (Nat.le_refl _) _
    have hb1 : Below g (w.alloc (.cells #[] 51)) w1 := by rw [hw1]; exact Below.alloc (Below.refl _ _) (by omega) _
    have HB1 : Hid (Below w.heap.size w w1) := hid (hb0.trans (hb1.mono (by omega)))
    have HST := hid ((OwnF.start w).below (by rw [hg]; exact hb1))
    have HNE : Hid (w.heap.size ≠ g) := hid (by omega)
    have hheap : w1.heap[g]? = some (.cells ((strsB P).map Value.string).toArray 9 (0, 0)) := by rw [hw1, ← hg]; exact (MapKept.heap_alloc _ _).1
    have HG1 : Hid (g < w1.heap.size) := hid ((Array.getElem?_eq_some_iff.1 hheap).1)
    have HCELLS : Hid (∀ (j : Nat) x, (strsB P)[j]? = some x → w1.cell? ⟨g, 0 + j, none⟩ = some (.string x)) := hid (by
      intro j x hj
      simp only [World.cell?, hheap, Nat.zero_add]
      simp [hj])
    rw [hg]
    clear hw1 hgw hb0 hb1 hheap hg
    obtain ⟨m, hm⟩ : ∃ m, P.length = m := ⟨_, rfl⟩
    have HM := hid hm
    rw [hm]
    have hml : m ≤ 1048577 := by rw [← hm]; exact HPL.out
    clear hm
    go_wp2_with fail
    go_loopw [4, 13] (fun v i wr => ∃ (k : Nat), k ≤ m ∧ k ≤ 256 ∧ i = .int .i64 k ∧ OwnF w.heap.size wr v (valsN (P.take k)) ∧ v.ownBlock ≠ some g ∧ g < wr.heap.size ∧ wr.heap[g]? = w1.heap[g]? ∧ (∀ j, (hj : j < P.length) → j < k → P[j].length = 8) ∧ Below w.heap.size w wr) (fun _ i _ => m - (intOf i).toNat)
    case atStart => exact ⟨0, Nat.zero_le _, Nat.zero_le _, rfl, HST.out, by simpa [Value.ownBlock] using HNE.out, HG1.out, rfl, fun j _ hj => absurd hj (Nat.not_lt_zero _), HB1.out⟩
    case round =>
      obtain ⟨k, hk, hk256, rfl, hown, hob, hgl, hgs, hall, hbel⟩ := hrel
      have HOWN := hid hown
      have HOB := hid hob
      have HGL := hid hgl
      have HGS := hid hgs
      have HALL := hid hall
      have HBEL := hid hbel
      obtain ⟨g2, cap2, cur2, hv2, -⟩ := id hown
      have hvl : (valsN (P.take k)).length = k := by unfold valsN; rw [List.length_map, List.length_take, HM.out]; omega
      rw [hvl] at hv2
      subst hv2
      clear hown hob hgl hgs hall hbel hvl
      by_cases hlt : k < m
      · have hkP : k < P.length := by rw [HM.out]; exact hlt
        have hc1 : wr.cell? ⟨g, 0 + k, none⟩ = some (.string ⟨P[k].toArray⟩) := by
          rw [World.cell?_of_block (w := w1) HGS.out]
          exact HCELLS.out k _ (strsB_at P k hkP)
        rw [Nat.zero_add] at hc1
        obtain ⟨p, hp⟩ : ∃ p, P[k] = p := ⟨_, rfl⟩
        have HPK := hid hp
        have HV : Hid (valsN (P.take (k + 1)) = valsN (P.take k) ++ [rd p]) := hid (by rw [valsN_step P k hkP, hp])
        have HFAIL : Hid (p.length ≠ 8 → rdn s.data.toList = ([], false)) := hid (fun h => by rw [HR.out, if_neg (by
          intro h2
          have := okN_no hkP (by rw [hp]; unfold okP; simp [h])
          rw [this] at h2
          exact absurd h2.2 (by decide))])
        rw [hp] at hc1
        obtain ⟨t, ht⟩ : ∃ t : ByteArray, (⟨p.toArray⟩ : ByteArray) = t := ⟨_, rfl⟩
        have hpt : t.data.toList = p := by rw [← ht]
        rw [ht] at hc1
        clear hp ht
        by_cases h8 : t.size = 8
        · have HP8 : Hid (p.length = 8) := hid (by rw [← hpt]; exact h8)
          by_cases h256 : k = 256
          · have HRN : Hid (rdn s.data.toList = ([], false)) := hid (by rw [HR.out, if_neg (by intro h; have := h.1; have := HM.out; omega)])
            subst h256
            clear hpt
            go_wp2_with fail
            go_ret2
            exact ⟨_, by rw [HRN.out]; rfl, by rw [HRN.out]; exact PkF.nil _ _, HBEL.out⟩
          · have hk2 : ((k : Int) == 256) = false := by simp; omega
            have hrd := fun w' h => readHex t h8 w' h
            rw [hpt] at hrd
            have HRD := hid hrd
            obtain ⟨r, hr⟩ : ∃ r, rd p = r := ⟨_, rfl⟩
            rw [hr] at HRD HV
            clear hpt hrd hr
            go_wp2_with fail
            refine (HRD.out _ (HE1.out.on HBEL.out)).mono ?_
            rintro e w2 ⟨rfl, -, hb2⟩
            have HB2 := hid (below_to HBEL.out hb2)
            have HOWN2 := hid (HOWN.out.below hb2)
            have HGS2 := hid ((hb2.block g HGL.out).trans HGS.out)
            have HGL2 := hid (Nat.lt_of_lt_of_le HGL.out hb2.size)
            clear hb2
            go_wp2_with (at_builtin; refine wpList_snocF rfl (.tmp 25) (.tmp 28) rfl w.heap.size HB2.out.size r (valsN (P.take k)) _ (by unfold valsN; rw [List.length_map, List.length_take]; omega) rfl rfl HOWN2.out ?_; intro v' w3 ho1 hb3 hkeep; have HO1 := hid ho1; have HB3 := hid (HB2.out.trans hb3); have HK := hid (hkeep g HGL2.out HOB.out); have HS3 := hid (Nat.lt_of_lt_of_le HGL2.out hb3.size); clear ho1 hb3 hkeep)
            go_roundw
            case rel => exact ⟨k + 1, by omega, by omega, by go_num, by rw [HV.out]; exact HO1.out, HK.out.2, HS3.out, HK.out.1.trans HGS2.out, fun j hjP hj => by
              by_cases e : j = k
              · subst e; rw [HPK.out]; exact HP8.out
              · exact HALL.out j hjP (by omega), HB3.out⟩
            case measure => simp [intOf]; omega
        · have hn8 : ((t.size : Int) != 8) = true := by
            simp
            omega
          have HRN := hid (HFAIL.out (by rw [← hpt]; exact h8))
          clear hpt
          go_wp2_with fail
          go_ret2
          exact ⟨_, by rw [HRN.out]; rfl, by rw [HRN.out]; exact PkF.nil _ _, HBEL.out⟩
      · obtain rfl : k = m := by omega
        have h8 : ∀ p ∈ P, p.length = 8 := by
          intro p hp
          obtain ⟨j, hj, rfl⟩ := List.mem_iff_getElem.1 hp
          exact HALL.out j hj (by rw [← HM.out]; exact hj)
        have hiff := HIFF.out h8
        have HFIN : Hid (OwnF w.heap.size wr (.slice (some ⟨g2, 0, none⟩) k cap2) (valsN P)) := hid (by have := HOWN.out; rwa [List.take_of_length_le (by rw [HM.out]; exact Nat.le_refl _)] at this)
        have haf : AllF (valsN P) := by
          intro j hj
          have hjP : j < P.length := by simpa [valsN] using hj
          have e : (valsN P).getD j 0 = rd P[j] := by
            rw [List.getD_eq_getElem?_getD]
            unfold valsN
            rw [List.getElem?_map, List.getElem?_eq_getElem hjP]
            rfl
          rw [e]
          exact rd_lt (h8 _ (List.getElem_mem _))
        have HIM := hid (imNumbersText _ k cap2 (valsN P) wr HFIN.out.pk.slV.2 haf (by omega) ((HBEL.out.cell (p := ⟨6, 15, none⟩) HTB.out).trans HTZ.out))
        have hnt : ntx (valsN P) k = (txtL (hexs (valsN P)), true) := by unfold ntx; rw [if_pos hk256]
        rw [hnt] at HIM
        obtain ⟨t, ht⟩ : ∃ t : ByteArray, (⟨(txtL (hexs (valsN P))).toArray⟩ : ByteArray) = t := ⟨_, rfl⟩
        have htl : t.data.toList = txtL (hexs (valsN P)) := by rw [← ht]
        have HIM2 : Hid (Calls Tryd.prog 32 #[.slice (some ⟨g2, 0, none⟩) k cap2] wr fun e w' => e = .returned (.tuple #[.string t, .bool true]) ∧ Below wr.heap.size wr w') := hid (by have := HIM.out; rw [← ht]; exact this)
        by_cases heq : t = s
        · have HRY : Hid (rdn s.data.toList = (valsN P, true)) := hid (by rw [HR.out, if_pos ⟨by rw [HM.out]; exact hk256, hiff.1 (by rw [← htl, heq])⟩])
          have hbe := beq_yes heq
          clear HIM hnt ht htl haf h8 hiff heq
          go_wp2_with fail
          refine HIM2.out.mono ?_
          rintro e w2 ⟨rfl, hb⟩
          have HF2 := hid (HFIN.out.below hb)
          have HB2 := hid (below_to HBEL.out hb)
          clear hb
          go_wp2_with fail
          go_ret2
          exact ⟨_, by rw [HRY.out]; rfl, by rw [HRY.out]; exact HF2.out.pk, HB2.out⟩
        · have HRN : Hid (rdn s.data.toList = ([], false)) := hid (by
            rw [HR.out, if_neg]
            intro h
            have e := hiff.2 h.2
            rw [← htl] at e
            apply heq
            obtain ⟨⟨a⟩⟩ := t
            obtain ⟨⟨b⟩⟩ := s
            rw [show a = b from e])
          have hbe := beq_no heq
          clear HIM hnt ht htl haf h8 hiff heq
          go_wp2_with fail
          refine HIM2.out.mono ?_
          rintro e w2 ⟨rfl, hb⟩
          have HB2 := hid (below_to HBEL.out hb)
          clear hb
          go_wp2_with fail
          go_ret2
          exact ⟨_, by rw [HRN.out]; rfl, by rw [HRN.out]; exact PkF.nil _ _, HB2.out⟩
end Walk
end Go.Proofs.YtimablpgikebgaaDoor
