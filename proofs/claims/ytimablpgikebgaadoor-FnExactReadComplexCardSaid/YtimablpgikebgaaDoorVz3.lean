/- Complex numbers' text, and what reading compares it with. No condition but what the row lists. -/
import Derived.Test.YtimablpgikebgaaDoorVz2
namespace Go.Proofs.YtimablpgikebgaaDoor
open Go.RowKit Sl
set_option linter.unusedVariables false
set_option linter.unusedSimpArgs false
namespace Walk
def hexC (x : Nat × Nat) : List UInt8 := hexW 8 (bo x.1) ++ hexW 8 (bo x.2)
def hexsC (zs : List (Nat × Nat)) : List (List UInt8) := zs.map hexC
def ntxC (zs : List (Nat × Nat)) (len : Nat) : List UInt8 × Bool := if len ≤ 256 then (txtL (hexsC zs), true) else ([], false)
def AllZ (zs : List (Nat × Nat)) : Prop := ∀ k, k < zs.length → (zs.getD k (0, 0)).1 < 4294967296 ∧ (zs.getD k (0, 0)).2 < 4294967296
theorem hexsC_at (zs : List (Nat × Nat)) (k : Nat) (hk : k < zs.length) : (hexsC zs)[k]? = some (hexW 8 (bo (zs.getD k (0, 0)).1) ++ hexW 8 (bo (zs.getD k (0, 0)).2)) := by
  unfold hexsC
  rw [List.getElem?_map, List.getElem?_eq_getElem hk, List.getD_eq_getElem?_getD, List.getElem?_eq_getElem hk]
  rfl
theorem hexsC_len (zs : List (Nat × Nat)) : (Lib.join (hexsC zs) [44]).length ≤ 17 * zs.length := by
  have := joinL_len (hexsC zs) 16 (fun x hx => by
    unfold hexsC at hx
    obtain ⟨y, _, rfl⟩ := List.mem_map.1 hx
    unfold hexC
    rw [List.length_append, hexW_length, hexW_length]
    exact Nat.le_refl _)
  simpa [hexsC] using this
theorem hexC_val {p : List UInt8} (hl : p.length = 16) : okC p = true ↔ hexC (valC p) = p := by
  have h1 : (p.take 8).length = 8 := by rw [List.length_take]; omega
  have h2 : (p.drop 8).length = 8 := by rw [List.length_drop]; omega
  constructor
  · intro h
    unfold okC at h
    simp at h
    unfold hexC valC
    rw [okP_eq h.2.1, okP_eq h.2.2, List.take_append_drop]
  · intro h
    have e1 : hexW 8 (bo (rd (p.take 8))) = p.take 8 := by
      have := congrArg (List.take 8) h
      unfold hexC valC at this
      rwa [List.take_append_of_le_length (by rw [hexW_length]; exact Nat.le_refl _), List.take_of_length_le (by rw [hexW_length]; exact Nat.le_refl _)] at this
    have e2 : hexW 8 (bo (rd (p.drop 8))) = p.drop 8 := by
      have := congrArg (List.drop 8) h
      unfold hexC valC at this
      rwa [List.drop_append_of_le_length (by rw [hexW_length]; exact Nat.le_refl _), List.drop_of_length_le (by rw [hexW_length]; exact Nat.le_refl _), List.nil_append] at this
    unfold okC okP
    rw [e1, e2, h1, h2, hl]
    simp
theorem txtC_iff (l : List UInt8) (h16 : ∀ p ∈ Dec.cutL l, p.length = 16) : txtL (hexsC (valsZ (Dec.cutL l))) = l ↔ (Dec.cutL l).all okC = true := by
  have hpos := Dec.cut_pos l
  have hne : Dec.cutL l ≠ [] := by intro e; rw [e] at hpos; simp at hpos
  have hv : hexsC (valsZ (Dec.cutL l)) = (Dec.cutL l).map fun p => hexC (valC p) := by
    unfold hexsC valsZ
    rw [List.map_map]
    rfl
  have hq : hexsC (valsZ (Dec.cutL l)) ≠ [] := by rw [hv]; simpa using hne
  have ht : txtL (hexsC (valsZ (Dec.cutL l))) = Lib.join (hexsC (valsZ (Dec.cutL l))) [44] := by unfold txtL; rw [if_neg hq]
  have hcut : Dec.cutL (Lib.join (hexsC (valsZ (Dec.cutL l))) [44]) = hexsC (valsZ (Dec.cutL l)) := cut_join _ (fun p hp c hc => by
    rw [hv] at hp
    obtain ⟨q, _, rfl⟩ := List.mem_map.1 hp
    have : low16 c = true := by
      rcases List.mem_append.1 (show c ∈ hexW 8 _ ++ hexW 8 _ from hc) with h | h
      · exact hexW_low 8 _ c h
      · exact hexW_low 8 _ c h
    intro e
    rw [e] at this
    exact absurd this (by decide)) hq
  rw [ht]
  constructor
  · intro h
    rw [h] at hcut
    rw [List.all_eq_true]
    intro p hp
    obtain ⟨k, hk, rfl⟩ := List.mem_iff_getElem.1 hp
    have e : (hexsC (valsZ (Dec.cutL l)))[k]? = (Dec.cutL l)[k]? := by rw [← hcut]
    rw [hv, List.getElem?_map, List.getElem?_eq_getElem hk] at e
    exact (hexC_val (h16 _ hp)).2 (Option.some.inj e)
  · intro h
    have : hexsC (valsZ (Dec.cutL l)) = Dec.cutL l := by
      rw [hv]
      conv => rhs; rw [← List.map_id (Dec.cutL l)]
      refine List.map_congr_left fun p hp => ?_
      rw [List.all_eq_true] at h
      exact (hexC_val (h16 p hp)).1 (h p hp)
    rw [this]
    exact join_cut l
set_option maxHeartbeats 1000000 in
theorem imComplexText (a : Option Addr) (len cap : Nat) (zs : List (Nat × Nat)) (w : World) (h : SlV (cz) w a len zs) (hf : AllZ zs) (hl : len ≤ 1048576) (htz : w.cell? ⟨6, 15, none⟩ = some (.int .u8 4)) : Calls Tryd.prog 42 #[.slice a len cap] w fun e w' => e = .returned (.tuple #[.string ⟨(ntxC zs len).1.toArray⟩, .bool (ntxC zs len).2]) ∧ Below w.heap.size w w' := by
  have H := hid h
  have HOK := hid hf
  have HLE := hid h.1
  have HTZ := hid htz
  have HTB := hid (block_lt htz)
  clear h hf htz
  by_cases hb : len ≤ 256
  · have HE : Hid (ntxC zs len = (txtL (hexsC zs), true)) := hid (by unfold ntxC; rw [if_pos hb])
    have hhl : (hexsC zs).length = zs.length := by simp [hexsC]
    have HHL := hid hhl
    clear hhl
    go_enter Tryd.func42, Tryd.ntmps42
    go_wp2_with fail
    go_loopw [4, 13] (fun v i wr => ∃ (k : Nat), k ≤ len ∧ i = .int .i64 k ∧ OwnS w.heap.size wr v (strsB ((hexsC zs).take k)) ∧ Below w.heap.size w wr) (fun _ i _ => len - (intOf i).toNat)
    case atStart => exact ⟨0, Nat.zero_le _, rfl, OwnS.start w, Below.alloc (Below.refl _ _) (Nat.le_refl _) _⟩
    case round =>
      obtain ⟨k, hk, rfl, hown, hbel⟩ := hrel
      have HOWN := hid hown
      have HBEL := hid hbel
      by_cases hlt : k < len
      · obtain ⟨b, off, rfl, hb0, hc⟩ := H.out.2 (by omega)
        have hc1 : wr.cell? ⟨b, off + k, none⟩ = some (cz (zs.getD k (0, 0))) := by rw [hbel.cell (p := ⟨b, off + k, none⟩) hb0]; exact hc k hlt
        obtain ⟨⟨y1, y2⟩, hy⟩ : ∃ x, zs.getD k (0, 0) = x := ⟨_, rfl⟩
        have hI2 := HOK.out k (by rw [HLE.out]; omega)
        have HAT := hid (hexsC_at zs k (by rw [HLE.out]; exact hlt))
        rw [hy] at hc1 hI2 HAT
        have HIA := hid hI2.1
        have HIB := hid hI2.2
        unfold cz at hc1
        simp only at hc1
        clear hc hy hown hbel hI2
        go_wp2_with fail
        refine (hexOf y1 HIA.out _ ((HBEL.out.cell (p := ⟨6, 15, none⟩) HTB.out).trans HTZ.out)).mono ?_
        rintro e w2 ⟨rfl, hb2⟩
        have HB2 := hid (below_to HBEL.out hb2)
        have HOWN2 := hid (HOWN.out.below hb2)
        obtain ⟨t1, ht1⟩ : ∃ t : ByteArray, (⟨(hexW 8 (bo y1)).toArray⟩ : ByteArray) = t := ⟨_, rfl⟩
        have ht1s : t1.size = 8 := by rw [← ht1]; exact hexw_size _
        rw [ht1]
        have HT1 := hid ht1
        clear hb2 ht1
        go_wp2_with fail
        refine (hexOf y2 HIB.out _ ((HB2.out.cell (p := ⟨6, 15, none⟩) HTB.out).trans HTZ.out)).mono ?_
        rintro e w3 ⟨rfl, hb3⟩
        have HB3' := hid (below_to HB2.out hb3)
        have HOWN3 := hid (HOWN2.out.below hb3)
        obtain ⟨t2, ht2⟩ : ∃ t : ByteArray, (⟨(hexW 8 (bo y2)).toArray⟩ : ByteArray) = t := ⟨_, rfl⟩
        have ht2s : t2.size = 8 := by rw [← ht2]; exact hexw_size _
        rw [ht2]
        have HT2 : Hid (strsB ((hexsC zs).take (k + 1)) = strsB ((hexsC zs).take k) ++ [t1 ++ t2]) := hid (by
          have hkl : k < (hexsC zs).length := by rw [HHL.out, HLE.out]; exact hlt
          have := HAT.out
          rw [List.getElem?_eq_getElem hkl] at this
          rw [List.take_succ_eq_append_getElem hkl, strsB_snoc, Option.some.inj this, ← HT1.out, ← ht2, str_cat])
        clear hb3 ht2
        go_wp2_with (at_builtin; refine wpList_snoc rfl (.tmp 17) (.tmp 25) rfl w.heap.size HB3'.out.size (t1 ++ t2) (strsB ((hexsC zs).take k)) _ (by rw [strsB_length, List.length_take]; omega) rfl rfl HOWN3.out ?_; intro v' w1 ho1 hb1; have HO1 := hid ho1; have HB1 := hid (HB3'.out.trans hb1); clear ho1 hb1)
        go_roundw
        case rel => exact ⟨k + 1, by omega, by go_num, by rw [HT2.out]; exact HO1.out, HB1.out⟩
        case measure => simp [intOf]; omega
      · obtain rfl : k = len := by omega
        rw [List.take_of_length_le (by rw [HHL.out, HLE.out]; exact Nat.le_refl _)] at hown
        have hj := joinedL w.heap.size _ (hexsC zs) wr hown (by rw [HHL.out, HLE.out]; omega) (Nat.le_trans (hexsC_len zs) (by rw [HLE.out]; omega))
        obtain ⟨t, ht⟩ : ∃ t : ByteArray, (⟨(txtL (hexsC zs)).toArray⟩ : ByteArray) = t := ⟨_, rfl⟩
        rw [ht] at hj
        have HJ := hid hj
        have HT := hid ht
        clear hown hbel HOWN hj ht
        go_wp2_with fail
        refine HJ.out.mono ?_
        rintro e w1 ⟨rfl, hb⟩
        have HB2 := hid (below_to HBEL.out hb)
        clear hb
        go_wp2_with fail
        go_ret2
        exact ⟨by rw [HE.out, ← HT.out]; rfl, HB2.out⟩
  · have HE : Hid (ntxC zs len = ([], false)) := hid (by unfold ntxC; rw [if_neg hb])
    go_enter Tryd.func42, Tryd.ntmps42
    go_wp2_with fail
    go_ret2
    exact ⟨by rw [HE.out]; rfl, Below.refl _ _⟩
end Walk
end Go.Proofs.YtimablpgikebgaaDoor
