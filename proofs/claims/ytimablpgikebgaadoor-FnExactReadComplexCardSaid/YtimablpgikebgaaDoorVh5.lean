/- Numbers' text: the rebuild's, and the law. No condition but what the row lists. -/
import Derived.Test.YtimablpgikebgaaDoorVh4
namespace Go.Proofs.YtimablpgikebgaaDoor
open Go.RowKit Sl Flo Iee
set_option linter.unusedVariables false
set_option linter.unusedSimpArgs false
namespace Walk
theorem l01Few (a : Option Addr) (len cap : Nat) (w : World) (hl : len ≤ 1048576) : Calls Tryd.prog 50 #[.slice a len cap] w fun e w' => e = .returned (.bool (decide (len ≤ 256))) ∧ w' = w := by
  by_cases h : len ≤ 256
  · have HD : Hid (decide (len ≤ 256) = true) := hid (by simpa using h)
    go_enter Tryd.func50, Tryd.ntmps50
    go_wp2
    go_ret
    exact ⟨by rw [HD.out]; simp; omega, rfl⟩
  · have HD : Hid (decide (len ≤ 256) = false) := hid (by simpa using h)
    go_enter Tryd.func50, Tryd.ntmps50
    go_wp2
    go_ret
    exact ⟨by rw [HD.out]; simp; omega, rfl⟩
set_option maxHeartbeats 1000000 in
theorem spNumbersText (a : Option Addr) (len cap : Nat) (zs : List Nat) (w : World) (h : SlV (Value.float .f32) w a len zs) (hf : AllF zs) (hl : len ≤ 1048576) : Calls Tryd.prog 30 #[.slice a len cap] w fun e w' => e = .returned (.tuple #[.string ⟨(ntx zs len).1.toArray⟩, .bool (ntx zs len).2]) ∧ Below w.heap.size w w' := by
  have HL := hid (l01Few a len cap w hl)
  by_cases hb : len ≤ 256
  · have HE : Hid (ntx zs len = (txtL (hexs zs), true)) := hid (by unfold ntx; rw [if_pos hb])
    rw [show decide (len ≤ 256) = true by simpa using hb] at HL
    have hT := l01NText a len cap zs w h hf hb
    obtain ⟨t, ht⟩ : ∃ t : ByteArray, (⟨(txtL (hexs zs)).toArray⟩ : ByteArray) = t := ⟨_, rfl⟩
    rw [ht] at hT
    have HT := hid hT
    have HTT := hid ht
    clear h hf hb hT ht
    go_enter Tryd.func30, Tryd.ntmps30
    go_wp2_with fail
    refine HL.out.mono ?_
    rintro e w1 ⟨rfl, rfl⟩
    go_wp2_with fail
    refine HT.out.mono ?_
    rintro e w2 ⟨rfl, hb⟩
    have HB := hid hb
    clear hb
    go_wp2_with fail
    go_ret2
    exact ⟨by rw [HE.out, ← HTT.out]; rfl, HB.out⟩
  · have HE : Hid (ntx zs len = ([], false)) := hid (by unfold ntx; rw [if_neg hb])
    rw [show decide (len ≤ 256) = false by simpa using hb] at HL
    clear h hf hb
    go_enter Tryd.func30, Tryd.ntmps30
    go_wp2_with fail
    refine HL.out.mono ?_
    rintro e w1 ⟨rfl, rfl⟩
    go_wp2_with fail
    go_ret2
    exact ⟨by rw [HE.out]; rfl, Below.refl _ _⟩
set_option maxHeartbeats 1000000 in
theorem imNumbersText (a : Option Addr) (len cap : Nat) (zs : List Nat) (w : World) (h : SlV (Value.float .f32) w a len zs) (hf : AllF zs) (hl : len ≤ 1048576) (htz : w.cell? ⟨6, 15, none⟩ = some (.int .u8 4)) : Calls Tryd.prog 32 #[.slice a len cap] w fun e w' => e = .returned (.tuple #[.string ⟨(ntx zs len).1.toArray⟩, .bool (ntx zs len).2]) ∧ Below w.heap.size w w' := by
  have H := hid h
  have HOK := hid hf
  have HLE := hid h.1
  have HTZ := hid htz
  have HTB := hid (block_lt htz)
  clear h hf htz
  by_cases hb : len ≤ 256
  · have HE : Hid (ntx zs len = (txtL (hexs zs), true)) := hid (by unfold ntx; rw [if_pos hb])
    have hhl : (hexs zs).length = zs.length := by simp [hexs]
    have HHL := hid hhl
    clear hhl
    go_enter Tryd.func32, Tryd.ntmps32
    go_wp2_with fail
    go_loopw [4, 13] (fun v i wr => ∃ (k : Nat), k ≤ len ∧ i = .int .i64 k ∧ OwnS w.heap.size wr v (strsB ((hexs zs).take k)) ∧ Below w.heap.size w wr) (fun _ i _ => len - (intOf i).toNat)
    case atStart => exact ⟨0, Nat.zero_le _, rfl, OwnS.start w, Below.alloc (Below.refl _ _) (Nat.le_refl _) _⟩
    case round =>
      obtain ⟨k, hk, rfl, hown, hbel⟩ := hrel
      have HOWN := hid hown
      have HBEL := hid hbel
      by_cases hlt : k < len
      · obtain ⟨b, off, rfl, hb0, hc⟩ := H.out.2 (by omega)
        have hc1 : wr.cell? ⟨b, off + k, none⟩ = some (.float .f32 (zs.getD k 0)) := by rw [hbel.cell (p := ⟨b, off + k, none⟩) hb0]; exact hc k hlt
        obtain ⟨y, hy⟩ : ∃ x, zs.getD k 0 = x := ⟨_, rfl⟩
        have HI2 := hid (HOK.out k (by rw [HLE.out]; omega))
        have HAT := hid (hexs_at zs k (by rw [HLE.out]; exact hlt))
        rw [hy] at hc1 HI2 HAT
        clear hc hy hown hbel
        go_wp2_with fail
        refine (hexOf y HI2.out _ ((HBEL.out.cell (p := ⟨6, 15, none⟩) HTB.out).trans HTZ.out)).mono ?_
        rintro e w2 ⟨rfl, hb2⟩
        have HB2 := hid (below_to HBEL.out hb2)
        have HOWN2 := hid (HOWN.out.below hb2)
        obtain ⟨t2, ht2⟩ : ∃ t : ByteArray, (⟨(hexW 8 (bo y)).toArray⟩ : ByteArray) = t := ⟨_, rfl⟩
        rw [ht2]
        have HT2 : Hid (strsB ((hexs zs).take (k + 1)) = strsB ((hexs zs).take k) ++ [t2]) := hid (by
          have hkl : k < (hexs zs).length := by rw [HHL.out, HLE.out]; exact hlt
          have := HAT.out
          rw [List.getElem?_eq_getElem hkl] at this
          rw [List.take_succ_eq_append_getElem hkl, strsB_snoc, Option.some.inj this, ht2])
        clear hb2 ht2
        go_wp2_with (at_builtin; refine wpList_snoc rfl (.tmp 17) (.tmp 20) rfl w.heap.size HB2.out.size t2 (strsB ((hexs zs).take k)) _ (by rw [strsB_length, List.length_take]; omega) rfl rfl HOWN2.out ?_; intro v' w1 ho1 hb1; have HO1 := hid ho1; have HB1 := hid (HB2.out.trans hb1); clear ho1 hb1)
        go_roundw
        case rel => exact ⟨k + 1, by omega, by go_num, by rw [HT2.out]; exact HO1.out, HB1.out⟩
        case measure => simp [intOf]; omega
      · obtain rfl : k = len := by omega
        rw [List.take_of_length_le (by rw [HHL.out, HLE.out]; exact Nat.le_refl _)] at hown
        have hj := joinedL w.heap.size _ (hexs zs) wr hown (by rw [HHL.out, HLE.out]; omega) (Nat.le_trans (hexs_len zs) (by rw [HLE.out]; omega))
        obtain ⟨t, ht⟩ : ∃ t : ByteArray, (⟨(txtL (hexs zs)).toArray⟩ : ByteArray) = t := ⟨_, rfl⟩
        rw [ht] at hj
        have HJ := hid hj
        have HT := hid ht
        clear hown hbel HOWN hj ht
        go_wp2_with fail
        refine HJ.out.mono ?_
        rintro e w1 ⟨rfl, hb⟩
        have HB2 := hid (below_to HBEL.out hb)
        clear hb
        go_wp2_with fail
        go_ret2
        exact ⟨by rw [HE.out, ← HT.out]; rfl, HB2.out⟩
  · have HE : Hid (ntx zs len = ([], false)) := hid (by unfold ntx; rw [if_neg hb])
    go_enter Tryd.func32, Tryd.ntmps32
    go_wp2_with fail
    go_ret2
    exact ⟨by rw [HE.out]; rfl, Below.refl _ _⟩
set_option maxHeartbeats 1000000 in
theorem fnExactNumbersText (a : Option Addr) (len cap : Nat) (zs : List Nat) (w : World) (hrow : IsRowF .f32 w a len cap zs) (htz : w.cell? ⟨6, 15, none⟩ = some (.int .u8 4)) : Calls Tryd.prog 8 #[.slice a len cap] w fun e w' => e = .returned (.bool true) ∧ Below w.heap.size w w' := by
  obtain ⟨h, hwf, hmax⟩ := hrow
  unfold maxLen at hmax
  by_cases hbig : 1048576 < len
  · go_enter Tryd.func8, Tryd.ntmps8
    go_wp2_with fail
    go_ret
    exact ⟨rfl, Below.refl _ _⟩
  · have hl : len ≤ 1048576 := by omega
    have H := hid h
    have HTZ := hid htz
    have HTB := hid (block_lt htz)
    have HW := hid hwf
    have hf : AllF zs := by
      intro k hk
      have := hwf (zs.getD k 0) (by rw [List.getD_eq_getElem?_getD, List.getElem?_eq_getElem hk]; exact List.getElem_mem hk)
      simpa [Lit.wf] using this
    obtain ⟨t, d, hF⟩ : ∃ (t : ByteArray) (d : Bool), ∀ (a' : Option Addr) (c : Nat) (w' : World), SlV (Value.float .f32) w' a' len zs → (Calls Tryd.prog 30 #[.slice a' len c] w' fun e w'' => e = .returned (.tuple #[.string t, .bool d]) ∧ Below w'.heap.size w' w'') ∧ (w'.cell? ⟨6, 15, none⟩ = some (.int .u8 4) → Calls Tryd.prog 32 #[.slice a' len c] w' fun e w'' => e = .returned (.tuple #[.string t, .bool d]) ∧ Below w'.heap.size w' w'') :=
      ⟨_, _, fun a' c w' h => ⟨spNumbersText a' len c zs w' h hf hl, imNumbersText a' len c zs w' h hf hl⟩⟩
    have HF := hid hF
    clear h hwf hbig hF htz hf
    go_enter Tryd.func8, Tryd.ntmps8
    go_wp2_with fail
    refine (toF _ _ _ zs _ H.out hl).mono ?_
    rintro e w1 ⟨a1, rfl, s1, b1⟩
    go_wp2_with fail
    refine (HF.out _ _ _ s1).1.mono ?_
    rintro e w2 ⟨rfl, b2⟩
    have b2' := below_to b1 b2
    clear b1 b2 s1
    go_wp2_with fail
    refine (toF _ _ _ zs _ (H.out.below b2') hl).mono ?_
    rintro e w3 ⟨a3, rfl, s3, b3⟩
    have b3' := below_to b2' b3
    clear b2' b3
    go_wp2_with fail
    refine ((HF.out _ _ _ s3).2 ((b3'.cell (p := ⟨6, 15, none⟩) HTB.out).trans HTZ.out)).mono ?_
    rintro e w4 ⟨rfl, b4⟩
    have s4 := s3.below b4
    have b4' := below_to b3' b4
    clear b3' b4 s3
    go_wp2_with fail
    refine (toF _ _ _ zs _ (H.out.below b4') hl).mono ?_
    rintro e w5 ⟨a5, rfl, s5, b5⟩
    have s5' := s4.below b5
    have b5' := below_to b4' b5
    clear b4' b5 s4
    go_wp2_with fail
    refine (eqF _ _ _ _ _ zs _ s5' s5 HW.out hl).mono ?_
    rintro e w' ⟨rfl, n6, rfl⟩
    go_wp2_with fail
    go_ret
    exact ⟨rfl, below_dr b5' _⟩
end Walk
end Go.Proofs.YtimablpgikebgaaDoor
